/- known: the document's audit. What AuditKnown asks of an audit of two servers, and of images. -/
import Derived.Test.YtokflmiijdpchaaGreatD59
namespace Go.Proofs.YtokflmiijdpchaaGreat
open Go.RowKit
attribute [local go_sem] Oper.semAt_some
/-- An image of zeros is made: one operation, in every world. -/
theorem made_image : ∃ Z : Array Value, (∀ j, j < 12800 → Z[j]? = some (.int .u8 0)) ∧ ∀ W : World, (Instr.makeSlice 23 (.int .i64 12800) (.int .i64 12800)).run Tryz.prog W = .ok (.slice (some ⟨W.heap.size, 0, none⟩) 12800 12800) (W.alloc (.cells Z 5)) := by
  refine ⟨madeCells #[.int .u8 0] 12800, fun j hj => ?_, fun W => ?_⟩
  · have h := congrArg (fun l => l[j]?) (toList_madeCells_one (.int .u8 0) 12800)
    simp only [Array.getElem?_toList, List.getElem?_replicate, hj, if_true] at h
    exact h
  · exact run_make_row' 23 5 (.int .u8 0) 1 Tryz.underlying23 (by kernel_rfl) rfl .i64 .i64 12800 (by decide) (by decide) W
/-- Images: n times the same zeros. -/
def Img (W : World) (im b n : Nat) : Prop := (∀ i, i < n → W.cell? ⟨im, i, none⟩ = some (.slice (some ⟨b, 0, none⟩) 12800 12800)) ∧ im < W.heap.size ∧ (∀ j, j < 12800 → W.cell? ⟨b, j, none⟩ = some (.int .u8 0)) ∧ b < W.heap.size
theorem anew1 (W : World) (im b c : Nat) (h : Img W im b 1) : Calls Tryz.prog 5 #[.agg (stp 1 1 24 64 0 0), .slice (some ⟨im, 0, none⟩) 1 c] W fun r w' => ∃ a, r = .returned (.tuple #[.pointer (some ⟨a, 0, none⟩), .int .i64 0]) ∧ Aud w' a 1 1 (fun _ => 0) ∧ Below W.heap.size W w' :=
  anew_calls W im c b 12800 200 1 1 24 64 0 0 (fun _ => 0) h.1 h.2.1 (by decide) (by decide) h.2.2.1 h.2.2.2 (by decide) (by decide) (by decide) (fun i hi W => by
    obtain rfl : i = 0 := by omega
    exact home_0_1 W) (by simp) (by decide)
theorem img_made {w : World} {Z : Array Value} (hZ : ∀ j, j < 12800 → Z[j]? = some (.int .u8 0)) {W : World} (hb : Below (w.heap.size + 1) (w.alloc (.cells Z 5)) W) (t : TypeId) : Img (W.alloc (.cells #[.slice (some ⟨w.heap.size, 0, none⟩) 12800 12800] t)) W.heap.size w.heap.size 1 := by
  have hs := hb.size
  have hn := heap_alloc_new W (.cells #[.slice (some ⟨w.heap.size, 0, none⟩) 12800 12800] t)
  have hz : (W.alloc (.cells #[.slice (some ⟨w.heap.size, 0, none⟩) 12800 12800] t)).heap[w.heap.size]? = some (.cells Z 5 (0, 0)) := (heap_alloc_old _ _ (by simp at hs; omega)).trans ((hb.block _ (by omega)).trans (heap_alloc_new w _))
  refine ⟨fun i hi => ?_, by simp, fun j hj => (cellD hz j).1.trans (hZ j hj), by simp at hs ⊢; omega⟩
  obtain rfl : i = 0 := by omega
  exact (cellD hn 0).1
theorem Img.below {W W' : World} {im b n : Nat} (h : Img W im b n) (hb : Below W.heap.size W W') : Img W' im b n :=
  ⟨fun i hi => (hb.cell (p := ⟨im, i, none⟩) h.2.1).trans (h.1 i hi), Nat.lt_of_lt_of_le h.2.1 hb.size, fun j hj => (hb.cell (p := ⟨b, j, none⟩) h.2.2.2).trans (h.2.2.1 j hj), Nat.lt_of_lt_of_le h.2.2.2 hb.size⟩
/-- The document's audit. -/
abbrev Sm (W : World) (a : Nat) : Prop := Aud W a 1 1 fun _ => 0
theorem s_ledger (W : World) (a : Nat) (h : Sm W a) : Calls Tryz.prog 9 #[.pointer (some ⟨a, 0, none⟩), .int .i64 0, .int .i64 0] W fun r w' => r = .returned (.tuple #[.agg #[.int .i64 1, .int .i64 0, .int .i64 0], .int .i64 0]) ∧ Below W.heap.size W w' :=
  aledger_calls W a 1 1 _ h 0 0 (by decide) (by decide) (by decide)
theorem s_copy (W : World) (a : Nat) (h : Sm W a) : Calls Tryz.prog 10 #[.pointer (some ⟨a, 0, none⟩), .int .i64 0, .int .i64 0] W fun r w' => ∃ g, r = .returned (.tuple #[.slice (some ⟨g, 0, none⟩) 4 4, .int .i64 0]) ∧ w'.rangeAt g 0 [.int .u8 2, b0, b0, b0] ∧ W.heap.size ≤ g ∧ g < w'.heap.size ∧ Below W.heap.size W w' :=
  acopy_own W a 1 1 _ h 0 0 (by decide) (by decide) (by decide) rfl
theorem s_holder (W : World) (a : Nat) (h : Sm W a) : Calls Tryz.prog 7 #[.pointer (some ⟨a, 0, none⟩), .int .i64 0] W fun r w' => r = .returned (.tuple #[.int .i64 0, .bool true]) ∧ Below W.heap.size W w' :=
  aholder_calls W a 1 1 _ h 0 (by decide) (by decide) (by decide) (by decide)
theorem s_row (W : World) (a : Nat) (h : Sm W a) : Calls Tryz.prog 16 #[.pointer (some ⟨a, 0, none⟩), .int .i64 0] W fun r w' => ∃ g cap, r = .returned (.slice (some ⟨g, 0, none⟩) 1 cap) ∧ w'.rangeAt g 0 [.int .i64 1, .int .i64 0, .int .i64 0] ∧ g < w'.heap.size ∧ Below W.heap.size W w' :=
  (arow_calls W a 1 1 _ h 0 (by decide) (by decide) (by decide) (by decide)).mono fun r w' ⟨g, cap, h1, h2, _, h4⟩ => ⟨g, cap, h1, fun j u hu => by
    obtain ⟨c0, c1, c2⟩ := h2.2 0 (by decide)
    have hj := (List.getElem?_eq_some_iff.1 hu).1
    simp at hj
    rcases (show j = 0 ∨ j = 1 ∨ j = 2 by omega) with rfl | rfl | rfl
    · exact c0.trans hu
    · exact c1.trans hu
    · exact c2.trans hu, h2.1, h4⟩
theorem s_sound (W : World) (a : Nat) (h : Sm W a) : Calls Tryz.prog 15 #[.pointer (some ⟨a, 0, none⟩)] W fun r w' => r = .returned (.int .i64 (-1)) ∧ Below W.heap.size W w' :=
  asound_calls W a 1 1 _ h (by decide) (fun _ _ => by decide) (by decide)
set_option maxRecDepth 100000 in
set_option maxHeartbeats 8000000 in
theorem known_calls (w : World) : Calls Tryz.prog 4 #[] w fun e w' => e = .returned (.bool true) ∧ Below w.heap.size w w' := by
  obtain ⟨Z, hZ, hmk⟩ := made_image
  have HZ := Lib.hid hZ
  clear hZ
  go_enter Tryz.func4, Tryz.ntmps4
  go_upto_region 1 with (fail)
  go_region_held3 (fun W => w.heap.size ≤ W.heap.size) (first | exact Nat.le_refl _ | exact HN.out.2.size | exact HS.out | (have := HS.out; simp; omega) | (simp; done) | (simp; omega)) (first
    | (go_at_call 6; first
      | (with_reducible show Calls _ _ _ w.drew _; refine (small_calls w.drew).mono ?_; rintro y W1 ⟨rfl, hb1⟩; have HS := Lib.hid (show w.heap.size ≤ W1.heap.size from by have := hb1.size; simp at this; omega); have HSA := Lib.hid hb1; clear hb1)
      | (with_reducible show Calls _ _ _ (w.alloc (.cells Z 5)).drew _; refine (small_calls (w.alloc (.cells Z 5)).drew).mono ?_; rintro y W1 ⟨rfl, hb1⟩; have HS := Lib.hid (show w.heap.size ≤ W1.heap.size from by have := hb1.size; simp at this; omega); have HSB := Lib.hid hb1; clear hb1)
      | (with_reducible show Calls _ _ _ (((w.alloc (.cells Z 5)).alloc (.cells #[.slice (some ⟨w.heap.size, 0, none⟩) 12800 12800] 23)).drew) _; refine (small_calls (((w.alloc (.cells Z 5)).alloc (.cells #[.slice (some ⟨w.heap.size, 0, none⟩) 12800 12800] 23)).drew)).mono ?_; rintro y W1 ⟨rfl, hb1⟩; have HS := Lib.hid (show w.heap.size ≤ W1.heap.size from by have := hb1.size; simp at this; omega); have HSC := Lib.hid hb1; clear hb1))
    | (go_at_call 5; first
      | (have hb9 := HSA.out; have hs9 := HS.out; have hBW : Below w.heap.size w ((W1.alloc (.cells Z 5)).alloc (.cells #[.slice (some ⟨W1.heap.size, 0, none⟩) 12800 12800] 23)) := (((Below.refl _ _).drew.trans hb9).alloc hs9 _).alloc (by simp; omega) _; have HI : Img ((W1.alloc (.cells Z 5)).alloc (.cells #[.slice (some ⟨W1.heap.size, 0, none⟩) 12800 12800] 23)) (W1.heap.size + 1) W1.heap.size 1 := (by simpa using img_made HZ.out (Below.refl (W1.heap.size + 1) _) 23); clear hb9 hs9; refine (anew1 _ _ _ _ HI).mono ?_; rintro y WN ⟨a, rfl, h1, h2⟩; have HN := Lib.hid (show Aud WN a 1 1 (fun _ => 0) ∧ Below w.heap.size w WN from ⟨h1, hBW.trans (h2.mono hBW.size)⟩); clear h1 h2 hBW HI)
      | (have hb9 := HSB.out; have hs9 := HS.out; have hBW : Below w.heap.size w (W1.alloc (.cells #[.slice (some ⟨w.heap.size, 0, none⟩) 12800 12800] 23)) := ((((Below.refl _ _).alloc (Nat.le_refl _) _).drew.trans (hb9.mono (by simp))).alloc hs9 _); have HI : Img (W1.alloc (.cells #[.slice (some ⟨w.heap.size, 0, none⟩) 12800 12800] 23)) W1.heap.size w.heap.size 1 := img_made (w := w) HZ.out ((Below.refl _ _).drew.trans (hb9.mono (by simp))) 23; clear hb9 hs9; refine (anew1 _ _ _ _ HI).mono ?_; rintro y WN ⟨a, rfl, h1, h2⟩; have HN := Lib.hid (show Aud WN a 1 1 (fun _ => 0) ∧ Below w.heap.size w WN from ⟨h1, hBW.trans (h2.mono hBW.size)⟩); clear h1 h2 hBW HI)
      | (have hb9 := HSC.out; have hBW : Below w.heap.size w W1 := ((((Below.refl _ _).alloc (Nat.le_refl _) _).alloc (by simp) _).drew).trans (hb9.mono (by simp; omega)); have HI0 : Img (((w.alloc (.cells Z 5)).alloc (.cells #[.slice (some ⟨w.heap.size, 0, none⟩) 12800 12800] 23)).drew) (w.heap.size + 1) w.heap.size 1 := Img.below (by simpa using img_made (w := w) HZ.out (Below.refl (w.heap.size + 1) _) 23) (Below.refl _ _).drew; have HI := HI0.below hb9; clear HI0 hb9; refine (anew1 _ _ _ _ HI).mono ?_; rintro y WN ⟨a, rfl, h1, h2⟩; have HN := Lib.hid (show Aud WN a 1 1 (fun _ => 0) ∧ Below w.heap.size w WN from ⟨h1, hBW.trans (h2.mono hBW.size)⟩); clear h1 h2 hBW HI)))
  all_goals
    go_upto_region 7 with (first
      | (go_at_call 12; refine (num29_calls _ _).mono ?_; rintro y w' ⟨rfl, hw⟩; obtain rfl := hw.symm)
      | (go_at_call 9; refine (s_ledger WN a HN.out.1).mono ?_; rintro y W2 ⟨rfl, h2⟩; have n2 := heap_alloc_new W2 (.cells #[.int .i64 1, .int .i64 0, .int .i64 0] 41); have H2 := Lib.hid (show Below WN.heap.size WN (W2.alloc (.cells #[.int .i64 1, .int .i64 0, .int .i64 0] 41)) ∧ _ from ⟨h2.alloc h2.size _, n2⟩); clear h2 n2)
      | (go_at_call 10; refine (s_copy _ a (HN.out.1.below H2.out.1)).mono ?_; rintro y W3 ⟨gc, rfl, h1, h2, h3, h4⟩; have H3 := Lib.hid (show _ ∧ _ ∧ Below WN.heap.size WN W3 ∧ W2.heap.size + 1 ≤ gc ∧ W3.heap[W2.heap.size]? = some (.cells #[.int .i64 1, .int .i64 0, .int .i64 0] 41 (0, 0)) from ⟨h1, h3, H2.out.1.trans (h4.mono H2.out.1.size), by simpa using h2, (h4.block W2.heap.size (by simp)).trans H2.out.2⟩); clear h1 h2 h3 h4)
      | (go_at_call 7; refine (s_holder W3 a (HN.out.1.below H3.out.2.2.1)).mono ?_; rintro y W4 ⟨rfl, h4⟩; have H4 := Lib.hid h4; clear h4))
    have n4 := (H4.out.block W2.heap.size (Array.getElem?_eq_some_iff.1 H3.out.2.2.2.2).1).trans H3.out.2.2.2.2
    have i0 : W4.cell? ⟨W2.heap.size, 0, none⟩ = some (.int .i64 1) := (cellD n4 0).1
    have i1 : W4.cell? ⟨W2.heap.size, 1, none⟩ = some (.int .i64 0) := (cellD n4 1).1
    have i2 : W4.cell? ⟨W2.heap.size, 2, none⟩ = some (.int .i64 0) := (cellD n4 2).1
    have HB4 := Lib.hid (H3.out.2.2.1.trans (H4.out.mono H3.out.2.2.1.size))
    have HG := Lib.hid (show _ ∧ gc < W4.heap.size from ⟨range_below H3.out.1 H4.out H3.out.2.1, Nat.lt_of_lt_of_le H3.out.2.1 H4.out.size⟩)
    clear n4
    go_wp2_with (first
      | (go_at_call 12; refine (num29_calls _ _).mono ?_; rintro y w' ⟨rfl, hw⟩; obtain rfl := hw.symm)
      | (go_at_call 17; refine (same_calls _ gc W4.heap.size 4 4 (by have := HG.out.2; simp; omega) (by simp) (range_below HG.out.1 ((Below.refl _ _).alloc (Nat.le_refl _) _) HG.out.2) (range_whole (heap_alloc_new W4 (.cells #[.int .u8 2, b0, b0, b0] 5)))).mono ?_; rintro y W6 ⟨rfl, h6⟩; have H6 := Lib.hid (show Below WN.heap.size WN W6 from (HB4.out.alloc HB4.out.size _).trans (h6.mono (by have := HB4.out.size; simp; omega))); clear h6)
      | (go_at_call 15; refine (s_sound W6 a (HN.out.1.below H6.out)).mono ?_; rintro y W7 ⟨rfl, h7⟩; have H7 := Lib.hid (H6.out.trans (h7.mono H6.out.size)); clear h7)
      | (go_at_call 16; refine (s_row W7 a (HN.out.1.below H7.out)).mono ?_; rintro y W8 ⟨gr, cr, rfl, h1, h2, h3⟩; have H8 := Lib.hid (show _ ∧ _ ∧ Below WN.heap.size WN W8 from ⟨h1, h2, H7.out.trans (h3.mono H7.out.size)⟩); clear h1 h2 h3)
      | (go_at_call 18; refine (sameRow_calls _ gr W8.heap.size cr 1 (range_below H8.out.1 ((Below.refl _ _).alloc (Nat.le_refl _) _) H8.out.2.1) (range_whole (heap_alloc_new W8 (.cells #[.int .i64 1, .int .i64 0, .int .i64 0] 41)))).mono ?_; rintro y W9 ⟨rfl, h9⟩; have H9 := Lib.hid (show Below WN.heap.size WN W9 from (H8.out.2.2.alloc H8.out.2.2.size _).trans (h9.mono (by have := H8.out.2.2.size; simp; omega))); clear h9))
    go_ret
    exact ⟨rfl, HN.out.2.trans (H9.out.mono HN.out.2.size)⟩
end Go.Proofs.YtokflmiijdpchaaGreat
namespace Go.Proofs.YtokflmiijdpchaaGreat
open Go.RowKit
/-- An image of zeros lies at b. -/
def Zer (W : World) (b : Nat) : Prop := (∀ j, j < 12800 → W.cell? ⟨b, j, none⟩ = some (.int .u8 0)) ∧ b < W.heap.size
theorem Zer.below {W W' : World} {b : Nat} (h : Zer W b) (hb : Below W.heap.size W W') : Zer W' b := ⟨fun j hj => (hb.cell (p := ⟨b, j, none⟩) h.2).trans (h.1 j hj), Nat.lt_of_lt_of_le h.2 hb.size⟩
theorem zer_made {w : World} {Z : Array Value} (hZ : ∀ j, j < 12800 → Z[j]? = some (.int .u8 0)) : Zer (w.alloc (.cells Z 5)) w.heap.size := ⟨fun j hj => (cellD (heap_alloc_new w _) j).1.trans (hZ j hj), by simp⟩
theorem zer_img1 {W : World} {b : Nat} (h : Zer W b) (t : TypeId) : Img (W.alloc (.cells #[.slice (some ⟨b, 0, none⟩) 12800 12800] t)) W.heap.size b 1 := by
  have h2 := h.below ((Below.refl W.heap.size W).alloc (Nat.le_refl _) (.cells #[.slice (some ⟨b, 0, none⟩) 12800 12800] t))
  refine ⟨fun i hi => ?_, by simp, h2.1, h2.2⟩
  obtain rfl : i = 0 := by omega
  exact (cellD (heap_alloc_new W _) 0).1
theorem zer_img2 {W : World} {b : Nat} (h : Zer W b) (t : TypeId) : Img (W.alloc (.cells #[.slice (some ⟨b, 0, none⟩) 12800 12800, .slice (some ⟨b, 0, none⟩) 12800 12800] t)) W.heap.size b 2 := by
  have h2 := h.below ((Below.refl W.heap.size W).alloc (Nat.le_refl _) (.cells #[.slice (some ⟨b, 0, none⟩) 12800 12800, .slice (some ⟨b, 0, none⟩) 12800 12800] t))
  refine ⟨fun i hi => ?_, by simp, h2.1, h2.2⟩
  rcases (show i = 0 ∨ i = 1 by omega) with rfl | rfl
  · exact (cellD (heap_alloc_new W _) 0).1
  · exact (cellD (heap_alloc_new W _) 1).1
/-- The homes of four shards on two servers. -/
def h2of (i : Nat) : Nat := if i < 2 then 0 else 1
abbrev Tw (W : World) (o : Nat) : Prop := Aud W o 2 4 h2of
theorem anew2 (W : World) (im b c : Nat) (h : Img W im b 2) : Calls Tryz.prog 5 #[.agg (stp 2 4 24 64 0 0), .slice (some ⟨im, 0, none⟩) 2 c] W fun r w' => ∃ a, r = .returned (.tuple #[.pointer (some ⟨a, 0, none⟩), .int .i64 0]) ∧ Tw w' a ∧ Below W.heap.size W w' :=
  anew_calls W im c b 12800 200 2 4 24 64 0 0 h2of h.1 h.2.1 (by decide) (by decide) h.2.2.1 h.2.2.2 (by decide) (by decide) (by decide) (fun i hi W => by
    rcases (show i = 0 ∨ i = 1 ∨ i = 2 ∨ i = 3 by omega) with rfl | rfl | rfl | rfl
    · exact home_0_2 W
    · exact home_1_2 W
    · exact home_2_2 W
    · exact home_3_2 W) (fun i _ => by unfold h2of; split <;> decide) (by decide)
/-- Refused: 63 bytes; 6400 bytes. -/
theorem anew_63 (W : World) (b : Nat) (t : TypeId) (_h : Zer W b) : Calls Tryz.prog 5 #[.agg (stp 1 1 24 64 0 0), .slice (some ⟨W.heap.size, 0, none⟩) 1 1] (W.alloc (.cells #[.slice (some ⟨b, 0, none⟩) 63 12800] t)) fun r w' => r = .returned (.tuple #[.pointer none, .int .i64 82]) ∧ Below W.heap.size W w' :=
  (anew_short _ W.heap.size 1 1 24 64 0 0 (.slice (some ⟨b, 0, none⟩) 63 12800) (cellD (heap_alloc_new W _) 0).1 (by simp) 82 rfl (fun W' _ => load_short W' b 12800 63 (by decide))).mono fun r w' ⟨h1, h2⟩ => ⟨h1, ((Below.refl _ _).alloc (Nat.le_refl _) _).trans (h2.mono (by simp))⟩
theorem anew_6400 (W : World) (b : Nat) (t : TypeId) (h : Zer W b) : Calls Tryz.prog 5 #[.agg (stp 1 1 24 64 0 0), .slice (some ⟨W.heap.size, 0, none⟩) 1 1] (W.alloc (.cells #[.slice (some ⟨b, 0, none⟩) 6400 12800] t)) fun r w' => r = .returned (.tuple #[.pointer none, .int .i64 2]) ∧ Below W.heap.size W w' := by
  have h2 := h.below ((Below.refl W.heap.size W).alloc (Nat.le_refl _) (.cells #[.slice (some ⟨b, 0, none⟩) 6400 12800] t))
  exact (anew_small _ W.heap.size 1 b 12800 100 1 24 64 0 0 (cellD (heap_alloc_new W _) 0).1 (by simp) (by decide) (by decide) (fun j hj => h2.1 j (by omega)) h2.2 (by decide) (by decide) (by decide)).mono fun r w' ⟨h1, h2⟩ => ⟨h1, ((Below.refl _ _).alloc (Nat.le_refl _) _).trans (h2.mono (by simp))⟩
theorem h2_lt (x : Nat) : h2of x < 2 := by unfold h2of; split <;> decide
theorem t_sound (W : World) (o : Nat) (h : Tw W o) : Calls Tryz.prog 15 #[.pointer (some ⟨o, 0, none⟩)] W fun r w' => r = .returned (.int .i64 (-1)) ∧ Below W.heap.size W w' :=
  asound_calls W o 2 4 _ h (by decide) (fun x _ => h2_lt x) (by decide)
theorem t_moves (W : World) (o : Nat) (h : Tw W o) : Calls Tryz.prog 11 #[.pointer (some ⟨o, 0, none⟩)] W fun r w' => r = .returned (.slice none 0 0) ∧ Below W.heap.size W w' :=
  amoves_calls W o 2 4 _ h (by decide) (fun x _ => h2_lt x) (by decide)
theorem t_holdings (W : World) (o x : Nat) (h : Tw W o) (hx : x < 4) : Calls Tryz.prog 14 #[.pointer (some ⟨o, 0, none⟩), .int .i64 x] W fun r w' => ∃ g cap, r = .returned (.slice (some ⟨g, 0, none⟩) 1 cap) ∧ Below W.heap.size W w' :=
  (aholdings_calls W o 2 4 _ h x hx (by decide) (h2_lt x) (by decide)).mono fun _ _ ⟨g, cap, _, h1, _, _, _, _, h2⟩ => ⟨g, cap, h1, h2⟩
theorem t_row (W : World) (o x : Nat) (h : Tw W o) (hx : x < 4) : Calls Tryz.prog 16 #[.pointer (some ⟨o, 0, none⟩), .int .i64 x] W fun r w' => ∃ g cap, r = .returned (.slice (some ⟨g, 0, none⟩) 2 cap) ∧ Below W.heap.size W w' :=
  (arow_calls W o 2 4 _ h x hx (by decide) (by decide) (by decide)).mono fun _ _ ⟨g, cap, h1, _, _, h2⟩ => ⟨g, cap, h1, h2⟩
theorem t_at (W : World) (o x : Nat) (h : Tw W o) (hx : x < 4) (a b : Int) (hab : (x < 2 ∧ a = 0 ∧ b = 1) ∨ (2 ≤ x ∧ a = 1 ∧ b = 0)) :
    (Calls Tryz.prog 7 #[.pointer (some ⟨o, 0, none⟩), .int .i64 x] W fun r w' => r = .returned (.tuple #[.int .i64 a, .bool true]) ∧ Below W.heap.size W w') ∧
    (Calls Tryz.prog 10 #[.pointer (some ⟨o, 0, none⟩), .int .i64 b, .int .i64 x] W fun r w' => r = .returned (.tuple #[.slice none 0 0, .int .i64 290]) ∧ Below W.heap.size W w') ∧
    (Calls Tryz.prog 8 #[.pointer (some ⟨o, 0, none⟩), .int .i64 x, .int .i64 a, .int .i64 b] W fun r w' => r = .returned (.tuple #[.slice none 0 0, .int .i64 290]) ∧ Below W.heap.size W w') := by
  rcases hab with ⟨h1, rfl, rfl⟩ | ⟨h1, rfl, rfl⟩
  · have hh : h2of x = 0 := if_pos h1
    have hd := aholder_calls W o 2 4 _ h x hx (by decide) (h2_lt x) (by decide)
    rw [hh] at hd
    exact ⟨hd, acopy_none W o 2 4 _ h 1 x (by decide) hx (by decide) (by rw [hh]; decide), adiffer_apart W o 2 4 _ h x 0 1 (by decide) (by decide) hx (by decide) hh.symm (by rw [hh]; decide)⟩
  · have hh : h2of x = 1 := if_neg (by omega)
    have hd := aholder_calls W o 2 4 _ h x hx (by decide) (h2_lt x) (by decide)
    rw [hh] at hd
    exact ⟨hd, acopy_none W o 2 4 _ h 0 x (by decide) hx (by decide) (by rw [hh]; decide), adiffer_apart W o 2 4 _ h x 1 0 (by decide) (by decide) hx (by decide) hh.symm (by rw [hh]; decide)⟩
end Go.Proofs.YtokflmiijdpchaaGreat
