/- AuditKnown: the walk. -/
import Derived.Test.YtokflmiijdpchaaGreatD60
import Derived.Deep.Cut
namespace Go.Proofs.YtokflmiijdpchaaGreat
open Go.RowKit
attribute [local go_sem] Oper.semAt_some
/-- A box that nothing opens by itself. -/
structure Box (p : Prop) : Prop where
  out : p
theorem hold_cmp (W : World) (g cap gl : Nat) (h1 : W.rangeAt g 0 (hcs 0 gl)) (hg : g < W.heap.size) (h3 : W.rangeAt gl 0 [.int .u8 2, b0, b0, b0]) (hgl : gl < W.heap.size) : Calls Tryz.prog 13 #[.slice (some ⟨g, 0, none⟩) 1 cap, .slice (some ⟨W.heap.size + 1, 0, none⟩) 1 1] ((W.alloc (.cells #[.int .u8 2, .int .u8 0, .int .u8 0, .int .u8 0] 5)).alloc (.cells #[.int .i64 0, .int .i64 1, .int .i64 0, .int .i64 0, .slice (some ⟨W.heap.size, 0, none⟩) 4 4] 53)) fun r w' => r = .returned (.bool true) ∧ Below W.heap.size W w' := by
  have hb1 : Below W.heap.size W (W.alloc (.cells #[.int .u8 2, .int .u8 0, .int .u8 0, .int .u8 0] 5)) := (Below.refl _ _).alloc (Nat.le_refl _) _
  have hb2 : Below W.heap.size W ((W.alloc (.cells #[.int .u8 2, .int .u8 0, .int .u8 0, .int .u8 0] 5)).alloc (.cells #[.int .i64 0, .int .i64 1, .int .i64 0, .int .i64 0, .slice (some ⟨W.heap.size, 0, none⟩) 4 4] 53)) := hb1.alloc (by simp) _
  have hq : ((W.alloc (.cells #[.int .u8 2, .int .u8 0, .int .u8 0, .int .u8 0] 5)).alloc (.cells #[.int .i64 0, .int .i64 1, .int .i64 0, .int .i64 0, .slice (some ⟨W.heap.size, 0, none⟩) 4 4] 53)).rangeAt W.heap.size 0 [.int .u8 2, b0, b0, b0] := range_below (range_whole (heap_alloc_new W (.cells #[.int .u8 2, b0, b0, b0] 5))) ((Below.refl _ _).alloc (Nat.le_refl _) _) (by simp)
  have hh : ((W.alloc (.cells #[.int .u8 2, .int .u8 0, .int .u8 0, .int .u8 0] 5)).alloc (.cells #[.int .i64 0, .int .i64 1, .int .i64 0, .int .i64 0, .slice (some ⟨W.heap.size, 0, none⟩) 4 4] 53)).rangeAt (W.heap.size + 1) 0 (hcs 0 W.heap.size) := by
    have := range_whole (heap_alloc_new (W.alloc (.cells #[.int .u8 2, .int .u8 0, .int .u8 0, .int .u8 0] 5)) (.cells #[.int .i64 0, .int .i64 1, .int .i64 0, .int .i64 0, .slice (some ⟨W.heap.size, 0, none⟩) 4 4] 53))
    simpa [hcs] using this
  refine (sameHoldings_calls _ g (W.heap.size + 1) cap 1 gl W.heap.size (by simp; omega) (by simp) (by simp; omega) (by simp; omega) (range_below h1 hb2 hg) hh (range_below h3 hb2 hgl) hq).mono fun r w' ⟨h4, h5⟩ => ⟨h4, hb2.trans (h5.mono (by simp; omega))⟩
set_option maxRecDepth 100000 in
set_option maxHeartbeats 16000000 in
theorem auditKnown_calls (w : World) : Calls Tryz.prog 3 #[] w fun e w' => e = .returned (.bool true) ∧ Below w.heap.size w w' := by
  obtain ⟨Z, hZ, hmk⟩ := made_image
  have HZ := Lib.hid hZ
  clear hZ
  go_enter Tryz.func3, Tryz.ntmps3
  go_upto_region 4 with (first
    | (go_at_call 4; refine (known_calls _).mono ?_; rintro y W1 ⟨rfl, h1⟩; have H1 := Lib.hid h1; clear h1))
  have hz2 := zer_made (w := W1) HZ.out
  have hb2 : Below w.heap.size w (W1.alloc (.cells Z 5)) := H1.out.alloc H1.out.size _
  obtain ⟨b, hb⟩ : ∃ b, b = W1.heap.size := ⟨_, rfl⟩
  generalize W1.alloc (.cells Z 5) = W2 at hz2 hb2 ⊢
  rw [← hb] at hz2 ⊢
  have H2 := Lib.hid (show _ ∧ _ from ⟨hz2, hb2⟩)
  clear hz2 hb2 hb H1
  go_upto_region 10 with (first
    | (go_at_call 6; refine (small_calls _).mono ?_; rintro y W3 ⟨rfl, h3⟩; have H3 := Lib.hid (show _ ∧ _ from ⟨H2.out.1.below h3, H2.out.2.trans (h3.mono H2.out.2.size)⟩); clear h3)
    | (go_at_call 5; refine (anew1 _ _ b 1 (zer_img1 H3.out.1 23)).mono ?_; rintro y W5 ⟨a, rfl, ha5, h5⟩; have hb5 : Below W3.heap.size W3 W5 := ((Below.refl _ _).alloc (Nat.le_refl _) _).trans (h5.mono (by simp)); have H5 := Lib.hid (show Sm W5 a ∧ Zer W5 b ∧ Below w.heap.size w W5 from ⟨ha5, H3.out.1.below hb5, H3.out.2.trans (hb5.mono H3.out.2.size)⟩); clear ha5 h5 hb5)
    | (go_at_call 7; refine (aholder_false W5 a 1 1 _ H5.out.1 1 (by decide)).mono ?_; rintro y w' ⟨rfl, hw⟩; obtain rfl := hw.symm)
    | (go_at_call 9; refine (aledger_bad W6 _ (.int .i64 0) (.int .i64 1) 2 (.inr rfl) (fun W hW => aat_shard W a 1 1 _ (H6.out.1.below hW) 0 1 (by decide) (by decide))).mono ?_; rintro y W7 ⟨rfl, h7⟩; have hb7 : Below W6.heap.size W6 (W7.alloc (.cells #[.int .i64 0, .int .i64 0, .int .i64 0] 41)) := h7.alloc h7.size _; have H7 := Lib.hid (show Sm (W7.alloc (.cells #[.int .i64 0, .int .i64 0, .int .i64 0] 41)) a ∧ Zer (W7.alloc (.cells #[.int .i64 0, .int .i64 0, .int .i64 0] 41)) b ∧ Below w.heap.size w (W7.alloc (.cells #[.int .i64 0, .int .i64 0, .int .i64 0] 41)) from ⟨H6.out.1.below hb7, H6.out.2.1.below hb7, H6.out.2.2.trans (hb7.mono H6.out.2.2.size)⟩); clear h7 hb7)
    | (go_at_call 10; refine (acopy_bad _ _ (.int .i64 1) (.int .i64 0) 2 (.inr rfl) (aat_server _ a 1 1 _ H7.out.1 1 0 (by decide))).mono ?_; rintro y w' ⟨rfl, hw⟩; obtain rfl := hw.symm)
    | (go_at_call 8; first
        | (have hd := H6.out.1; refine (adiffer_other W6 a 1 1 _ hd 0 0 1 (by decide) (by decide) (by decide)).mono ?_; rintro y w' ⟨rfl, hw⟩; clear hd; obtain rfl := hw.symm)
        | (refine (adiffer_same W5 a 1 1 _ H5.out.1 0 0 (by decide) (by decide) (by decide) rfl).mono ?_; rintro y W6 ⟨rfl, h6⟩; have H6 := Lib.hid (show Sm W6 a ∧ Zer W6 b ∧ Below w.heap.size w W6 from ⟨H5.out.1.below h6, H5.out.2.1.below h6, H5.out.2.2.trans (h6.mono H5.out.2.2.size)⟩); clear h6)))
  generalize W7.alloc (.cells #[.int .i64 0, .int .i64 0, .int .i64 0] 41) = W8 at H7 ⊢
  go_upto_region 12 with (first
    | (go_at_call 12; refine (num29_calls _ _).mono ?_; rintro y w' ⟨rfl, hw⟩; obtain rfl := hw.symm)
    | (go_at_call 11; refine (amoves_calls W8 a 1 1 _ H7.out.1 (by decide) (fun _ _ => by decide) (by decide)).mono ?_; rintro y W9 ⟨rfl, h9⟩; have H9 := Lib.hid (show Sm W9 a ∧ Zer W9 b ∧ Below w.heap.size w W9 from ⟨H7.out.1.below h9, H7.out.2.1.below h9, H7.out.2.2.trans (h9.mono H7.out.2.2.size)⟩); clear h9)
    | (go_at_call 14; refine (aholdings_calls W9 a 1 1 _ H9.out.1 0 (by decide) (by decide) (by decide) (by decide)).mono ?_; rintro y W10 ⟨g, cap, gl, rfl, h1, h2, h3, h4, h5⟩; have H10 := Lib.hid (show W10.rangeAt g 0 (hcs 0 gl) ∧ g < W10.heap.size ∧ _ ∧ gl < W10.heap.size ∧ Zer W10 b ∧ Below w.heap.size w W10 from ⟨h1, h2, h3, h4, H9.out.2.1.below h5, H9.out.2.2.trans (h5.mono H9.out.2.2.size)⟩); clear h1 h2 h3 h4 h5)
    | (go_at_call 13; refine (hold_cmp W10 g cap gl H10.out.1 H10.out.2.1 H10.out.2.2.1 H10.out.2.2.2.1).mono ?_; rintro y W11 ⟨rfl, h11⟩; have H11 := Lib.hid (show Zer W11 b ∧ Below w.heap.size w W11 from ⟨H10.out.2.2.2.2.1.below h11, H10.out.2.2.2.2.2.trans (h11.mono H10.out.2.2.2.2.2.size)⟩); clear h11))
  clear H2 H3 H5 H6 H7 H9 H10
  go_upto_region 13 with (first
    | (go_at_call 6; refine (small_calls _).mono ?_; rintro y W12 ⟨rfl, h3⟩; have H12 := Lib.hid (show Zer W12 b ∧ Below w.heap.size w W12 from ⟨H11.out.1.below h3, H11.out.2.trans (h3.mono H11.out.2.size)⟩); clear h3)
    | (go_at_call 5; refine (anew_len W12 none 0 0 1 1 24 64 0 0 (by decide) (by decide)).mono ?_; rintro y W13 ⟨rfl, h3⟩; have H13 := Lib.hid (show Zer W13 b ∧ Below w.heap.size w W13 from ⟨H12.out.1.below h3, H12.out.2.trans (h3.mono H12.out.2.size)⟩); clear h3))
  go_upto_region 14 with (first
    | (go_at_call 6; refine (small_calls _).mono ?_; rintro y W14 ⟨rfl, h3⟩; have H14 := Lib.hid (show Zer W14 b ∧ Below w.heap.size w W14 from ⟨H13.out.1.below h3, H13.out.2.trans (h3.mono H13.out.2.size)⟩); clear h3)
    | (go_at_call 5; refine (anew_len _ _ 2 2 1 1 24 64 0 0 (by decide) (by decide)).mono ?_; rintro y W15 ⟨rfl, h3⟩; have hb3 : Below W14.heap.size W14 W15 := ((Below.refl _ _).alloc (Nat.le_refl _) _).trans (h3.mono (by simp)); have H15 := Lib.hid (show Zer W15 b ∧ Below w.heap.size w W15 from ⟨H14.out.1.below hb3, H14.out.2.trans (hb3.mono H14.out.2.size)⟩); clear h3 hb3))
  have HZR := Lib.hid H15.out.1
  refine' (fun (hall : Box _) => ?walk) ⟨?hs⟩
  case walk =>
    go_region_held3 (fun W => W15.heap.size ≤ W.heap.size) (first | exact Nat.le_refl _ | exact HN.out.size | exact HS.out | (have := HS.out; simp; omega) | (simp; done) | (simp; omega)) (first
      | (go_at_call 6; first
        | (with_reducible show Calls _ _ _ W15.drew _; refine (small_calls W15.drew).mono ?_; rintro y Ws ⟨rfl, hb1⟩; have HS := Lib.hid (show W15.heap.size ≤ Ws.heap.size from by have := hb1.size; simp at this; omega); have HSA := Lib.hid (show Below W15.heap.size W15 Ws from (Below.refl _ _).drew.trans (hb1.mono (by simp))); clear hb1)
        | (with_reducible show Calls _ _ _ ((W15.alloc (.cells #[.slice (some ⟨b, 0, none⟩) 63 12800] 23)).drew) _; refine (small_calls ((W15.alloc (.cells #[.slice (some ⟨b, 0, none⟩) 63 12800] 23)).drew)).mono ?_; rintro y Ws ⟨rfl, hb1⟩; have HS := Lib.hid (show W15.heap.size ≤ Ws.heap.size from by have := hb1.size; simp at this; omega); have HSB := Lib.hid (show Below (W15.heap.size + 1) (W15.alloc (.cells #[.slice (some ⟨b, 0, none⟩) 63 12800] 23)) Ws from (Below.refl _ _).drew.trans (hb1.mono (by simp))); clear hb1))
      | (go_at_call 5; first
        | (have hq := HSA.out; have hs9 := HS.out; have hz9 := HZR.out.below hq; have hbn : Below W15.heap.size W15 (Ws.alloc (.cells #[.slice (some ⟨b, 0, none⟩) 63 12800] 23)) := hq.alloc hs9 _; have hci : (Ws.alloc (.cells #[.slice (some ⟨b, 0, none⟩) 63 12800] 23)).cell? ⟨Ws.heap.size, 0, none⟩ = some (.slice (some ⟨b, 0, none⟩) 63 12800) := (cellD (heap_alloc_new Ws _) 0).1; have hz8 := hz9.below ((Below.refl Ws.heap.size Ws).alloc (Nat.le_refl _) (.cells #[.slice (some ⟨b, 0, none⟩) 63 12800] 23)); refine (anew_short _ Ws.heap.size 1 1 24 64 0 0 _ hci (by simp) 82 rfl (fun W' _ => load_short W' b 12800 63 (by decide))).mono ?_; clear hci hz8 hz9 hq hs9; rintro y Wn ⟨rfl, h17⟩; have HN := Lib.hid (show Below W15.heap.size W15 Wn from hbn.trans (h17.mono hbn.size)); clear h17 hbn)
        | (have hq := HSB.out; have hs9 := HS.out; have hbn : Below W15.heap.size W15 Ws := ((Below.refl _ _).alloc (Nat.le_refl _) _).trans (hq.mono (by omega)); have hci : Ws.cell? ⟨W15.heap.size, 0, none⟩ = some (.slice (some ⟨b, 0, none⟩) 63 12800) := (hq.cell (p := ⟨W15.heap.size, 0, none⟩) (by simp only; omega)).trans (cellD (heap_alloc_new W15 _) 0).1; have hz8 := HZR.out.below hbn; refine (anew_short _ W15.heap.size 1 1 24 64 0 0 _ hci (by have := hq.size; simp at this; omega) 82 rfl (fun W' _ => load_short W' b 12800 63 (by decide))).mono ?_; clear hci hz8 hq hs9; rintro y Wn ⟨rfl, h17⟩; have HN := Lib.hid (show Below W15.heap.size W15 Wn from hbn.trans (h17.mono hbn.size)); clear h17 hbn)))
    · generalize Ws.heap.size = X
      clear HS HSA
      revert X Wn
      exact hall.out
    · clear HS HSB
      generalize W15.heap.size = X
      revert X Wn
      exact hall.out
  case hs =>
    intro W16 HN hh16 X
    have hbc := HN.out
    have H16 := Lib.hid (show Zer W16 b ∧ Below w.heap.size w W16 from ⟨H15.out.1.below hbc, H15.out.2.trans (hbc.mono H15.out.2.size)⟩)
    clear hbc H15 HZR HN hh16
    go_upto_region 15 with (fail)
    have HZR := Lib.hid H16.out.1
    refine' (fun (hall : Box _) => ?walk) ⟨?hs⟩
    case walk =>
      go_region_held3 (fun W => W16.heap.size ≤ W.heap.size) (first | exact Nat.le_refl _ | exact HN.out.size | exact HS.out | (have := HS.out; simp; omega) | (simp; done) | (simp; omega)) (first
        | (go_at_call 6; first
          | (with_reducible show Calls _ _ _ W16.drew _; refine (small_calls W16.drew).mono ?_; rintro y Ws ⟨rfl, hb1⟩; have HS := Lib.hid (show W16.heap.size ≤ Ws.heap.size from by have := hb1.size; simp at this; omega); have HSA := Lib.hid (show Below W16.heap.size W16 Ws from (Below.refl _ _).drew.trans (hb1.mono (by simp))); clear hb1)
          | (with_reducible show Calls _ _ _ ((W16.alloc (.cells #[.slice (some ⟨b, 0, none⟩) 6400 12800] 23)).drew) _; refine (small_calls ((W16.alloc (.cells #[.slice (some ⟨b, 0, none⟩) 6400 12800] 23)).drew)).mono ?_; rintro y Ws ⟨rfl, hb1⟩; have HS := Lib.hid (show W16.heap.size ≤ Ws.heap.size from by have := hb1.size; simp at this; omega); have HSB := Lib.hid (show Below (W16.heap.size + 1) (W16.alloc (.cells #[.slice (some ⟨b, 0, none⟩) 6400 12800] 23)) Ws from (Below.refl _ _).drew.trans (hb1.mono (by simp))); clear hb1))
        | (go_at_call 5; first
          | (have hq := HSA.out; have hs9 := HS.out; have hz9 := HZR.out.below hq; have hbn : Below W16.heap.size W16 (Ws.alloc (.cells #[.slice (some ⟨b, 0, none⟩) 6400 12800] 23)) := hq.alloc hs9 _; have hci : (Ws.alloc (.cells #[.slice (some ⟨b, 0, none⟩) 6400 12800] 23)).cell? ⟨Ws.heap.size, 0, none⟩ = some (.slice (some ⟨b, 0, none⟩) 6400 12800) := (cellD (heap_alloc_new Ws _) 0).1; have hz8 := hz9.below ((Below.refl Ws.heap.size Ws).alloc (Nat.le_refl _) (.cells #[.slice (some ⟨b, 0, none⟩) 6400 12800] 23)); refine (anew_small _ Ws.heap.size 1 b 12800 100 1 24 64 0 0 hci (by simp) (by decide) (by decide) (fun j hj => hz8.1 j (by omega)) hz8.2 (by decide) (by decide) (by decide)).mono ?_; clear hci hz8 hz9 hq hs9; rintro y Wn ⟨rfl, h17⟩; have HN := Lib.hid (show Below W16.heap.size W16 Wn from hbn.trans (h17.mono hbn.size)); clear h17 hbn)
          | (have hq := HSB.out; have hs9 := HS.out; have hbn : Below W16.heap.size W16 Ws := ((Below.refl _ _).alloc (Nat.le_refl _) _).trans (hq.mono (by omega)); have hci : Ws.cell? ⟨W16.heap.size, 0, none⟩ = some (.slice (some ⟨b, 0, none⟩) 6400 12800) := (hq.cell (p := ⟨W16.heap.size, 0, none⟩) (by simp only; omega)).trans (cellD (heap_alloc_new W16 _) 0).1; have hz8 := HZR.out.below hbn; refine (anew_small _ W16.heap.size 1 b 12800 100 1 24 64 0 0 hci (by have := hq.size; simp at this; omega) (by decide) (by decide) (fun j hj => hz8.1 j (by omega)) hz8.2 (by decide) (by decide) (by decide)).mono ?_; clear hci hz8 hq hs9; rintro y Wn ⟨rfl, h17⟩; have HN := Lib.hid (show Below W16.heap.size W16 Wn from hbn.trans (h17.mono hbn.size)); clear h17 hbn)))
      · generalize Ws.heap.size = X
        clear HS HSA
        revert X Wn
        exact hall.out
      · clear HS HSB
        generalize W16.heap.size = X
        revert X Wn
        exact hall.out
    case hs =>
      intro W17 HN hh17 X2
      have hbc := HN.out
      have H17 := Lib.hid (show Zer W17 b ∧ Below w.heap.size w W17 from ⟨H16.out.1.below hbc, H16.out.2.trans (hbc.mono H16.out.2.size)⟩)
      clear hbc H16 HZR HN hh17
      go_upto_region 19 with ((go_at_call 12; refine (num29_calls _ _).mono ?_; rintro y w' ⟨rfl, hw⟩; obtain rfl := hw.symm))
      have hn18 := heap_alloc_new W17 (.cells #[.int .i64 2, .int .i64 4, .int .i64 0, .int .i64 24, .int .i64 64, .int .u64 0] 32)
      have hb18 : Below W17.heap.size W17 (W17.alloc (.cells #[.int .i64 2, .int .i64 4, .int .i64 0, .int .i64 24, .int .i64 64, .int .u64 0] 32)) := (Below.refl _ _).alloc (Nat.le_refl _) _
      have H18 := Lib.hid (show Zer (W17.alloc (.cells #[.int .i64 2, .int .i64 4, .int .i64 0, .int .i64 24, .int .i64 64, .int .u64 0] 32)) b ∧ Below w.heap.size w (W17.alloc (.cells #[.int .i64 2, .int .i64 4, .int .i64 0, .int .i64 24, .int .i64 64, .int .u64 0] 32)) from ⟨H17.out.1.below hb18, H17.out.2.trans (hb18.mono H17.out.2.size)⟩)
      clear hb18
      generalize W17.alloc (.cells #[.int .i64 2, .int .i64 4, .int .i64 0, .int .i64 24, .int .i64 64, .int .u64 0] 32) = W18 at hn18 H18 ⊢
      have q0 : W18.cell? ⟨W17.heap.size, 0, none⟩ = some (.int .i64 2) := (cellD hn18 0).1
      have q1 : W18.cell? ⟨W17.heap.size, 1, none⟩ = some (.int .i64 4) := (cellD hn18 1).1
      have q2 : W18.cell? ⟨W17.heap.size, 2, none⟩ = some (.int .i64 0) := (cellD hn18 2).1
      have q3 : W18.cell? ⟨W17.heap.size, 3, none⟩ = some (.int .i64 24) := (cellD hn18 3).1
      have q4 : W18.cell? ⟨W17.heap.size, 4, none⟩ = some (.int .i64 64) := (cellD hn18 4).1
      have q5 : W18.cell? ⟨W17.heap.size, 5, none⟩ = some (.int .u64 0) := (cellD hn18 5).1
      clear hn18
      go_upto_region 20 with ((go_at_call 5; refine (anew2 _ _ b 2 (zer_img2 H18.out.1 23)).mono ?_; rintro y W20 ⟨o, rfl, ho, h20⟩; have hb20 : Below W18.heap.size W18 W20 := ((Below.refl _ _).alloc (Nat.le_refl _) _).trans (h20.mono (by simp)); have H20 := Lib.hid (show Tw W20 o ∧ Below w.heap.size w W20 from ⟨ho, H18.out.2.trans (hb20.mono H18.out.2.size)⟩); clear ho h20 hb20))
      clear q0 q1 q2 q3 q4 q5
      go_upto_region 22 with (first
        | (go_at_call 12; refine (num29_calls _ _).mono ?_; rintro y w' ⟨rfl, hw⟩; obtain rfl := hw.symm)
        | (go_at_call 15; refine (t_sound W20 o H20.out.1).mono ?_; rintro y W21 ⟨rfl, h21⟩; have H21 := Lib.hid (show Tw W21 o ∧ Below w.heap.size w W21 from ⟨H20.out.1.below h21, H20.out.2.trans (h21.mono H20.out.2.size)⟩); clear h21)
        | (go_at_call 11; refine (t_moves W21 o H21.out.1).mono ?_; rintro y W22 ⟨rfl, h22⟩; have H22 := Lib.hid (show Tw W22 o ∧ Below w.heap.size w W22 from ⟨H21.out.1.below h22, H21.out.2.trans (h22.mono H21.out.2.size)⟩); clear h22))
      clear H17 H18 H20 H21
      go_wp2
      go_loopw [25] (fun i wr => ∃ x : Nat, x ≤ 4 ∧ i = .int .i64 x ∧ Tw wr o ∧ Below w.heap.size w wr) (fun i _ => 4 - (intOf i).toNat)
      case atStart => exact ⟨0, by omega, rfl, H22.out⟩
      case round =>
        obtain ⟨x, hx, rfl, ht, hbl⟩ := hrel
        have HR := Lib.hid (show Tw wr o ∧ Below w.heap.size w wr from ⟨ht, hbl⟩)
        clear ht hbl
        by_cases hx4 : x < 4
        · have hcase : ∃ p q : Int, ((x < 2 ∧ p = 0 ∧ q = 1) ∨ (2 ≤ x ∧ p = 1 ∧ q = 0)) := by
            by_cases h2 : x < 2
            · exact ⟨0, 1, .inl ⟨h2, rfl, rfl⟩⟩
            · exact ⟨1, 0, .inr ⟨by omega, rfl, rfl⟩⟩
          obtain ⟨p, q, hpq⟩ := hcase
          have HT := Lib.hid fun W (hW : Tw W o) => t_at W o x hW hx4 p q hpq
          have hpq2 : (p = 0 ∧ q = 1) ∨ (p = 1 ∧ q = 0) := hpq.imp (fun h => h.2) (fun h => h.2)
          clear hpq
          rcases hpq2 with ⟨rfl, rfl⟩ | ⟨rfl, rfl⟩
          all_goals
            go_wp2_with (first
              | (go_at_call 12; refine (num29_calls _ _).mono ?_; rintro y w' ⟨rfl, hw⟩; obtain rfl := hw.symm)
              | (go_at_call 7; refine (HT.out wr HR.out.1).1.mono ?_; rintro y Wa ⟨rfl, h1⟩; have Ha := Lib.hid (show Tw Wa o ∧ Below w.heap.size w Wa from ⟨HR.out.1.below h1, HR.out.2.trans (h1.mono HR.out.2.size)⟩); clear h1)
              | (go_at_call 10; refine (HT.out Wa Ha.out.1).2.1.mono ?_; rintro y Wb ⟨rfl, h1⟩; have Hb := Lib.hid (show Tw Wb o ∧ Below w.heap.size w Wb from ⟨Ha.out.1.below h1, Ha.out.2.trans (h1.mono Ha.out.2.size)⟩); clear h1)
              | (go_at_call 8; refine (HT.out Wb Hb.out.1).2.2.mono ?_; rintro y Wc ⟨rfl, h1⟩; have Hc := Lib.hid (show Tw Wc o ∧ Below w.heap.size w Wc from ⟨Hb.out.1.below h1, Hb.out.2.trans (h1.mono Hb.out.2.size)⟩); clear h1)
              | (go_at_call 14; refine (t_holdings Wc o x Hc.out.1 hx4).mono ?_; rintro y Wd ⟨gd, cd, rfl, h1⟩; have Hd := Lib.hid (show Tw Wd o ∧ Below w.heap.size w Wd from ⟨Hc.out.1.below h1, Hc.out.2.trans (h1.mono Hc.out.2.size)⟩); clear h1)
              | (go_at_call 16; refine (t_row Wd o x Hd.out.1 hx4).mono ?_; rintro y We ⟨ge, ce, rfl, h1⟩; have He := Lib.hid (show Tw We o ∧ Below w.heap.size w We from ⟨Hd.out.1.below h1, Hd.out.2.trans (h1.mono Hd.out.2.size)⟩); clear h1))
            exact ⟨⟨x + 1, by omega, by go_num, He.out⟩, by simp [intOf]; omega⟩
        · obtain rfl : x = 4 := by omega
          go_wp2_with (first
            | (go_at_call 12; refine (num29_calls _ _).mono ?_; rintro y w' ⟨rfl, hw⟩; obtain rfl := hw.symm)
            | (go_at_call 9; refine (aledger_bad wr _ (.int .i64 0) (.int .i64 0) 1 (.inl rfl) (fun W _ => aat_nil W 0 0)).mono ?_; rintro y Wf ⟨rfl, h1⟩; have Hf := Lib.hid (show ∀ ob : Obj, Below w.heap.size w (Wf.alloc ob) from fun ob => HR.out.2.trans ((h1.alloc h1.size ob).mono HR.out.2.size)); clear h1)
            | (go_at_call 10; refine (acopy_bad _ _ (.int .i64 0) (.int .i64 0) 1 (.inl rfl) (aat_nil _ 0 0)).mono ?_; rintro y w' ⟨rfl, hw⟩; obtain rfl := hw.symm)
            | (go_at_call 8; refine (adiffer_bad _ _ (.int .i64 0) (.int .i64 0) (.int .i64 0) 1 (.inl rfl) (aat_nil _ 0 0)).mono ?_; rintro y w' ⟨rfl, hw⟩; obtain rfl := hw.symm)
            | (go_at_call 7; refine (aholder_nil _ 0).mono ?_; rintro y w' ⟨rfl, hw⟩; obtain rfl := hw.symm)
            | (go_at_call 16; refine (arow_nil _ 0).mono ?_; rintro y w' ⟨rfl, hw⟩; obtain rfl := hw.symm)
            | (go_at_call 14; refine (aholdings_nil _ 0).mono ?_; rintro y w' ⟨rfl, hw⟩; obtain rfl := hw.symm)
            | (go_at_call 11; refine (amoves_nil _).mono ?_; rintro y w' ⟨rfl, hw⟩; obtain rfl := hw.symm)
            | (go_at_call 15; refine (asound_nil _).mono ?_; rintro y w' ⟨rfl, hw⟩; obtain rfl := hw.symm))
          go_ret
          exact ⟨rfl, Hf.out _⟩
end Go.Proofs.YtokflmiijdpchaaGreat
