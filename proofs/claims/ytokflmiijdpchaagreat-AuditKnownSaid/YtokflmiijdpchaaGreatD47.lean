/- The audit's Holder, Sound, Moves. -/
import Derived.Test.YtokflmiijdpchaaGreatD46
namespace Go.Proofs.YtokflmiijdpchaaGreat
open Go.RowKit
attribute [local go_sem] Oper.semAt_some
theorem aholder_calls (w : World) (a n m : Nat) (H : Nat → Nat) (h : Aud w a n m H) (x : Nat) (hx : x < m) (hm : m ≤ 64) (hH : H x < n) (hn : n ≤ 8) : Calls Tryz.prog 7 #[.pointer (some ⟨a, 0, none⟩), .int .i64 x] w fun r w' => r = .returned (.tuple #[.int .i64 (H x), .bool true]) ∧ Below w.heap.size w w' := by
  have HA := Lib.hid h
  clear h
  go_enter Tryz.func7, Tryz.ntmps7
  go_wp2_with (first
    | (go_at_call 21; refine (ashard_true w a n m H HA.out x hx).mono ?_; rintro y w' ⟨rfl, hw⟩; obtain rfl := hw.symm)
    | (go_at_call 16; refine (arow_calls w a n m H HA.out x hx hm (by omega) hn).mono ?_; rintro y w1 ⟨g, cap, rfl, h1, -, h3⟩; have H1 := Lib.hid (show _ ∧ _ from ⟨h1, h3⟩); clear h1 h3)
    | (go_at_call 22; refine (holder_calls w1 g n (H x) cap H1.out.1 hH hn).mono ?_; rintro y w2 ⟨rfl, h3⟩; have H2 := Lib.hid h3; clear h3))
  go_ret2
  exact ⟨rfl, H1.out.2.trans (H2.out.mono H1.out.2.size)⟩
theorem aholder_false (w : World) (a n m : Nat) (H : Nat → Nat) (h : Aud w a n m H) (x : Nat) (hx : m ≤ x) : Calls Tryz.prog 7 #[.pointer (some ⟨a, 0, none⟩), .int .i64 x] w fun r w' => r = .returned (.tuple #[.int .i64 0, .bool false]) ∧ w' = w := by
  have HA := Lib.hid h
  clear h
  go_enter Tryz.func7, Tryz.ntmps7
  go_wp2_with (first
    | (go_at_call 21; refine (ashard_false w a n m H HA.out x hx).mono ?_; rintro y w' ⟨rfl, hw⟩; obtain rfl := hw.symm))
  go_ret2
  exact ⟨rfl, rfl⟩
theorem aholder_nil (w : World) (x : Int) : Calls Tryz.prog 7 #[.pointer none, .int .i64 x] w fun r w' => r = .returned (.tuple #[.int .i64 0, .bool false]) ∧ w' = w := by
  go_enter Tryz.func7, Tryz.ntmps7
  go_wp2_with (first
    | (go_at_call 21; refine (ashard_nil w x).mono ?_; rintro y w' ⟨rfl, hw⟩; obtain rfl := hw.symm))
  go_ret2
  exact ⟨rfl, rfl⟩
theorem asound_nil (w : World) : Calls Tryz.prog 15 #[.pointer none] w fun r w' => r = .returned (.int .i64 (-1)) ∧ w' = w := by
  go_enter Tryz.func15, Tryz.ntmps15
  go_wp2
  go_ret
  exact ⟨rfl, rfl⟩
theorem amoves_nil (w : World) : Calls Tryz.prog 11 #[.pointer none] w fun r w' => r = .returned (.slice none 0 0) ∧ w' = w := by
  go_enter Tryz.func11, Tryz.ntmps11
  go_wp2
  go_ret
  exact ⟨rfl, rfl⟩
set_option maxRecDepth 100000 in
theorem asound_calls (w : World) (a n m : Nat) (H : Nat → Nat) (h : Aud w a n m H) (hm : m ≤ 64) (hH : ∀ x, x < m → H x < n) (hn : n ≤ 8) : Calls Tryz.prog 15 #[.pointer (some ⟨a, 0, none⟩)] w fun r w' => r = .returned (.int .i64 (-1)) ∧ Below w.heap.size w w' := by
  obtain ⟨-, c1⟩ := h.two
  have HA := Lib.hid (show _ ∧ _ from ⟨h, hH⟩)
  clear h hH
  go_enter Tryz.func15, Tryz.ntmps15
  go_wp2
  go_loopw [14] (fun i wr => ∃ j : Nat, j ≤ m ∧ i = .int .i64 j ∧ Below w.heap.size w wr) (fun i _ => m - (intOf i).toNat)
  case atStart => exact ⟨0, by omega, rfl, Below.refl _ _⟩
  case round =>
    obtain ⟨j, hj, rfl, hb⟩ := hrel
    by_cases hjm : j < m
    · have hHj := HA.out.2 j hjm
      have HR := Lib.hid (show _ ∧ _ from ⟨hb, HA.out.1.below hb⟩)
      clear hb
      go_wp2_with (first
        | (go_at_call 16; refine (arow_calls wr a n m H HR.out.2 j hjm hm (by omega) hn).mono ?_; rintro y w1 ⟨g, cap, rfl, h1, -, h3⟩; have H1 := Lib.hid (show _ ∧ _ from ⟨h1, h3⟩); clear h1 h3)
        | (go_at_call 30; refine (lsound_calls w1 g n (H j) cap H1.out.1 hHj hn).mono ?_; rintro y w2 ⟨rfl, h3⟩; have H2 := Lib.hid (show Below wr.heap.size wr w2 from H1.out.2.trans (h3.mono H1.out.2.size)); clear h3)
        | (go_at_call 7; refine (aholder_calls w2 a n m H (HR.out.2.below H2.out) j hjm hm hHj hn).mono ?_; rintro y w3 ⟨rfl, h3⟩; have H3 := Lib.hid (show Below wr.heap.size wr w3 from H2.out.trans (h3.mono H2.out.size)); clear h3)
        | (go_at_call 10; refine (acopy_own w3 a n m H (HR.out.2.below H3.out) (H j) j hHj hjm hm rfl).mono ?_; rintro y w4 ⟨gc, rfl, -, -, -, h3⟩; have H4 := Lib.hid (show Below wr.heap.size wr w4 from H3.out.trans (h3.mono H3.out.size)); clear h3))
      exact ⟨⟨j + 1, by omega, by go_num, HR.out.1.trans (H4.out.mono HR.out.1.size)⟩, by simp [intOf]; omega⟩
    · obtain rfl : j = m := by omega
      go_wp2
      go_ret
      exact ⟨rfl, hb⟩
set_option maxRecDepth 100000 in
set_option maxHeartbeats 2000000 in
theorem amoves_calls (w : World) (a n m : Nat) (H : Nat → Nat) (h : Aud w a n m H) (hm : m ≤ 64) (hH : ∀ x, x < m → H x < n) (hn : n ≤ 8) : Calls Tryz.prog 11 #[.pointer (some ⟨a, 0, none⟩)] w fun r w' => r = .returned (.slice none 0 0) ∧ Below w.heap.size w w' := by
  obtain ⟨-, c1⟩ := h.two
  have HA := Lib.hid (show _ ∧ _ from ⟨h, hH⟩)
  clear h hH
  go_enter Tryz.func11, Tryz.ntmps11
  go_wp2
  go_loopw [3, 17] (fun v i wr => ∃ j : Nat, j ≤ m ∧ i = .int .i64 j ∧ v = .slice none 0 0 ∧ Below w.heap.size w wr) (fun _ i _ => m - (intOf i).toNat)
  case atStart => exact ⟨0, by omega, rfl, rfl, Below.refl _ _⟩
  case round =>
    obtain ⟨j, hj, rfl, rfl, hb⟩ := hrel
    by_cases hjm : j < m
    · have hHj := HA.out.2 j hjm
      have HR := Lib.hid (show _ ∧ _ from ⟨hb, HA.out.1.below hb⟩)
      clear hb
      go_wp2_with (first
        | (go_at_call 7; refine (aholder_calls wr a n m H HR.out.2 j hjm hm hHj hn).mono ?_; rintro y w3 ⟨rfl, h3⟩; have H3 := Lib.hid h3; clear h3)
        | (go_at_call 16; refine (arow_calls w3 a n m H (HR.out.2.below H3.out) j hjm hm (by omega) hn).mono ?_; rintro y w1 ⟨g, cap, rfl, h1, -, h3⟩; have d0 := (h1.2 _ hHj).1; rw [if_pos rfl] at d0; have H1 := Lib.hid (show _ ∧ _ from ⟨h1, H3.out.trans (h3.mono H3.out.size)⟩); clear h1 h3))
      have HB1 := Lib.hid (show _ ∧ _ from ⟨HR.out.1.trans (H1.out.2.mono HR.out.1.size), H1.out.1⟩)
      clear HR H1 H3
      go_loopw [3, 50] (fun v i W => ∃ q : Nat, q ≤ n ∧ i = .int .i64 q ∧ v = .slice none 0 0 ∧ Below w1.heap.size w1 W) (fun _ i _ => n - (intOf i).toNat)
      case atStart => exact ⟨0, by omega, rfl, rfl, Below.refl _ _⟩
      case round =>
        obtain ⟨q, hq, rfl, rfl, hb⟩ := hrel
        by_cases hqn : q < n
        · obtain ⟨ph, hph⟩ : ∃ ph : Int, ph = (if q = H j then 1 else 0) := ⟨_, rfl⟩
          obtain ⟨c0, c1', c2⟩ := (HB1.out.2.below hb).2 q hqn
          obtain ⟨d0', d1, d2⟩ := (HB1.out.2.below hb).2 (H j) hHj
          rw [← hph] at c0
          have hg : g < wr.heap.size := (HB1.out.2.below hb).1
          have hp01 : ph ≠ 3 := by rw [hph]; split <;> omega
          have HQ := Lib.hid hb
          clear hb hph d0' d2
          go_upto_region 15 with (fail)
          obtain ⟨W0, hW0⟩ : ∃ W0, W0 = wr.alloc (.cells #[.int .i64 ph, .int .i64 0, .int .i64 (H j)] 41) := ⟨_, rfl⟩
          have hn := heap_alloc_new wr (.cells #[.int .i64 ph, .int .i64 0, .int .i64 (H j)] 41)
          rw [← hW0] at hn ⊢
          have hb0 : Below wr.heap.size wr W0 := hW0 ▸ (Below.refl _ _).alloc (Nat.le_refl _) _
          have k0 : W0.cell? ⟨wr.heap.size, 0, none⟩ = some (.int .i64 ph) := (cellD hn 0).1
          have k1 : W0.cell? ⟨wr.heap.size, 1, none⟩ = some (.int .i64 0) := (cellD hn 1).1
          have k2 : W0.cell? ⟨wr.heap.size, 2, none⟩ = some (.int .i64 (H j)) := (cellD hn 2).1
          have k3 : W0.cell? ⟨g, H j * 3 + 1, none⟩ = some (.int .i64 0) := (hb0.cell (p := ⟨g, H j * 3 + 1, none⟩) hg).trans d1
          have HK := Lib.hid (show Below w1.heap.size w1 W0 from HQ.out.trans (hb0.mono HQ.out.size))
          clear hb0 hn hW0 c0 c1' c2 d1
          go_region_held3 (fun W => W.cell? ⟨wr.heap.size, 0, none⟩ = some (.int .i64 ph) ∧ W.cell? ⟨wr.heap.size, 1, none⟩ = some (.int .i64 0) ∧ W.cell? ⟨wr.heap.size, 2, none⟩ = some (.int .i64 (H j)) ∧ W.cell? ⟨g, H j * 3 + 1, none⟩ = some (.int .i64 0)) (first | go_keep | exact ⟨k0, k1, k2, k3⟩) (fail)
          go_wp2
          exact ⟨⟨q + 1, by omega, by go_num, rfl, HK.out.drew⟩, by simp [intOf]; omega⟩
        · obtain rfl : q = n := by omega
          go_wp2
          exact ⟨⟨j + 1, by omega, by go_num, rfl, HB1.out.1.trans (hb.mono HB1.out.1.size)⟩, by simp [intOf]; omega⟩
    · obtain rfl : j = m := by omega
      go_wp2
      go_ret
      exact ⟨rfl, hb⟩
end Go.Proofs.YtokflmiijdpchaaGreat
