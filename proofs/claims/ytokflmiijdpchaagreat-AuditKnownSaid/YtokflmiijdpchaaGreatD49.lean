/- audit.New refused. -/
import Derived.Test.YtokflmiijdpchaaGreatD48
namespace Go.Proofs.YtokflmiijdpchaaGreat
open Go.RowKit
attribute [local go_sem] Oper.semAt_some
theorem load_short (w : World) (b c n : Nat) (hn : n < 64) : Calls Tryz.prog 19 #[.slice (some ⟨b, 0, none⟩) n c] w fun e w' => e = .returned (.tuple #[.pointer none, .int .i64 82]) ∧ w' = w := by
  have hd : n / 64 = 0 := by omega
  go_enter Tryz.func19, Tryz.ntmps19
  go_wp2
  go_ret2
  exact ⟨rfl, rfl⟩
theorem anew_len (w : World) (a : Option Addr) (k c : Nat) (n m lg sh : Nat) (cl sd : Int) (hk : k ≠ n) (_h1 : 1 ≤ n ∧ n ≤ 8) : Calls Tryz.prog 5 #[.agg (stp n m lg sh cl sd), .slice a k c] w fun r w' => r = .returned (.tuple #[.pointer none, .int .i64 2]) ∧ Below w.heap.size w w' := by
  have hb : ∀ o : Obj, Below w.heap.size w (w.alloc o) := fun o => (Below.refl _ _).alloc (Nat.le_refl _) _
  have n0 := heap_alloc_new w (.cells (stp n m lg sh cl sd) 32)
  have k0 : (w.alloc (.cells (stp n m lg sh cl sd) 32)).cell? ⟨w.heap.size, 0, none⟩ = some (.int .i64 n) := (cellD n0 0).1
  clear n0
  have hkb : ((k : Int) != n) = true := by simp; omega
  go_enter Tryz.func5, Tryz.ntmps5
  go_wp2
  go_ret2
  exact ⟨rfl, hb _⟩
set_option maxRecDepth 100000 in
set_option maxHeartbeats 2000000 in
/-- A first image that Load refuses. -/
theorem anew_short (w : World) (im c : Nat) (m lg sh : Nat) (cl sd : Int) (iv : Value) (hi : w.cell? ⟨im, 0, none⟩ = some iv) (him : im < w.heap.size) (k : Int) (hk : k = 82) (hL : ∀ W, Below w.heap.size w W → Calls Tryz.prog 19 #[iv] W fun e w' => e = .returned (.tuple #[.pointer none, .int .i64 k]) ∧ w' = W) : Calls Tryz.prog 5 #[.agg (stp 1 m lg sh cl sd), .slice (some ⟨im, 0, none⟩) 1 c] w fun r w' => r = .returned (.tuple #[.pointer none, .int .i64 k]) ∧ Below w.heap.size w w' := by
  subst hk
  have HX := Lib.hid (show _ ∧ _ from ⟨hi, hL⟩)
  clear hi hL
  have n0 := heap_alloc_new w (.cells (stp 1 m lg sh cl sd) 32)
  have k0 : (w.alloc (.cells (stp 1 m lg sh cl sd) 32)).cell? ⟨w.heap.size, 0, none⟩ = some (.int .i64 1) := (cellD n0 0).1
  have k1 : (w.alloc (.cells (stp 1 m lg sh cl sd) 32)).cell? ⟨w.heap.size, 1, none⟩ = some (.int .i64 m) := (cellD n0 1).1
  clear n0
  go_enter Tryz.func5, Tryz.ntmps5
  go_upto_region 4 with (fail)
  obtain ⟨W0, hW0⟩ : ∃ W0, W0 = (w.alloc (.cells (stp 1 m lg sh cl sd) 32)).alloc (.cells #[.int .i64 1, .int .i64 m, .slice none 0 0] 61) := ⟨_, rfl⟩
  have b0 : W0.heap[w.heap.size]? = some (.cells (stp 1 m lg sh cl sd) 32 (0, 0)) := by
    rw [hW0, heap_alloc_old _ _ (by simp)]
    exact heap_alloc_new w _
  have hB0 : Below w.heap.size w W0 := hW0 ▸ ((Below.refl _ _).alloc (Nat.le_refl _) _).alloc (by simp) _
  rw [← hW0]
  clear hW0 k0 k1
  have k0 : W0.cell? ⟨w.heap.size, 0, none⟩ = some (.int .i64 1) := (cellD b0 0).1
  have ci : W0.cell? ⟨im, 0, none⟩ = some iv := (hB0.cell (p := ⟨im, 0, none⟩) him).trans HX.out.1
  have HL := Lib.hid (show _ ∧ _ from ⟨HX.out.2 W0 hB0, hB0⟩)
  clear b0 hB0
  go_wp2
  go_loopw [34] (fun i wr => i = .int .i64 0 ∧ wr = W0) (fun _ _ => 0)
  case atStart => exact ⟨rfl, rfl⟩
  case round =>
    obtain ⟨rfl, rfl⟩ := hrel
    go_wp2_with ((go_at_call 19; refine HL.out.1.mono ?_; rintro y w1 ⟨rfl, hw⟩; obtain rfl := hw.symm))
    go_ret2
    exact ⟨rfl, HL.out.2⟩
set_option maxRecDepth 100000 in
set_option maxHeartbeats 2000000 in
/-- A first image that is too small for an engine. -/
theorem anew_small (w : World) (im c b cb N : Nat) (m lg sh : Nat) (cl sd : Int) (hi : w.cell? ⟨im, 0, none⟩ = some (.slice (some ⟨b, 0, none⟩) (N * 64) cb)) (him : im < w.heap.size) (hN1 : 1 ≤ N) (hN2 : N ≤ 65536) (hz : ∀ j, j < N * 64 → w.cell? ⟨b, j, none⟩ = some (.int .u8 0)) (hb : b < w.heap.size) (hcb : N * 64 ≤ cb)
    (h1 : 1 ≤ m ∧ m ≤ 64 ∧ 24 ≤ lg ∧ lg ≤ 4096 ∧ 64 ≤ sh ∧ sh ≤ 16384) (hN : N < 2 * (lg + sh)) : Calls Tryz.prog 5 #[.agg (stp 1 m lg sh cl sd), .slice (some ⟨im, 0, none⟩) 1 c] w fun r w' => r = .returned (.tuple #[.pointer none, .int .i64 2]) ∧ Below w.heap.size w w' := by
  obtain ⟨g3, g4, g5, g6, g7, g8⟩ := h1
  have HX := Lib.hid (show _ ∧ _ from ⟨hi, hz⟩)
  clear hi hz
  have n0 := heap_alloc_new w (.cells (stp 1 m lg sh cl sd) 32)
  have k0 : (w.alloc (.cells (stp 1 m lg sh cl sd) 32)).cell? ⟨w.heap.size, 0, none⟩ = some (.int .i64 1) := (cellD n0 0).1
  have k1 : (w.alloc (.cells (stp 1 m lg sh cl sd) 32)).cell? ⟨w.heap.size, 1, none⟩ = some (.int .i64 m) := (cellD n0 1).1
  clear n0
  go_enter Tryz.func5, Tryz.ntmps5
  go_upto_region 4 with (fail)
  obtain ⟨W0, hW0⟩ : ∃ W0, W0 = (w.alloc (.cells (stp 1 m lg sh cl sd) 32)).alloc (.cells #[.int .i64 1, .int .i64 m, .slice none 0 0] 61) := ⟨_, rfl⟩
  have b0 : W0.heap[w.heap.size]? = some (.cells (stp 1 m lg sh cl sd) 32 (0, 0)) := by
    rw [hW0, heap_alloc_old _ _ (by simp)]
    exact heap_alloc_new w _
  have hB0 : Below w.heap.size w W0 := hW0 ▸ ((Below.refl _ _).alloc (Nat.le_refl _) _).alloc (by simp) _
  have hs0 : W0.heap.size = w.heap.size + 2 := by rw [hW0]; simp
  rw [← hW0]
  clear hW0 k0 k1
  have k0 : W0.cell? ⟨w.heap.size, 0, none⟩ = some (.int .i64 1) := (cellD b0 0).1
  have ci : W0.cell? ⟨im, 0, none⟩ = some (.slice (some ⟨b, 0, none⟩) (N * 64) cb) := (hB0.cell (p := ⟨im, 0, none⟩) him).trans HX.out.1
  have HL := Lib.hid (show _ ∧ _ ∧ _ from ⟨load_zeros W0 b (N * 64) cb N rfl hN1 hN2 (fun q hq => (hB0.cell (p := ⟨b, q, none⟩) hb).trans (HX.out.2 q hq)) (Nat.lt_of_lt_of_le hb hB0.size) hcb, hB0, b0⟩)
  clear b0 hB0
  go_wp2
  go_loopw [34] (fun i wr => i = .int .i64 0 ∧ wr = W0) (fun _ _ => 0)
  case atStart => exact ⟨rfl, rfl⟩
  case round =>
    obtain ⟨rfl, rfl⟩ := hrel
    go_upto_region 10 with ((go_at_call 19; refine HL.out.1.mono ?_; rintro y W1 ⟨d, sb, rfl, hd, hz, hd1, hs1, hb1⟩; have H1 := Lib.hid (show _ ∧ _ from ⟨hd, hb1⟩); clear hd hz hd1 hs1 hb1))
    have m0 := (H1.out.2.block w.heap.size (by omega)).trans HL.out.2.2
    have q0 : W1.cell? ⟨w.heap.size, 0, none⟩ = some (.int .i64 1) := (cellD m0 0).1
    have q1 : W1.cell? ⟨w.heap.size, 1, none⟩ = some (.int .i64 m) := (cellD m0 1).1
    have q2 : W1.cell? ⟨w.heap.size, 2, none⟩ = some (.int .i64 cl) := (cellD m0 2).1
    have q3 : W1.cell? ⟨w.heap.size, 3, none⟩ = some (.int .i64 lg) := (cellD m0 3).1
    have q4 : W1.cell? ⟨w.heap.size, 4, none⟩ = some (.int .i64 sh) := (cellD m0 4).1
    have q5 : W1.cell? ⟨w.heap.size, 5, none⟩ = some (.int .u64 sd) := (cellD m0 5).1
    have HO := Lib.hid (eopen_small W1 d N sb H1.out.1 0 1 m lg sh cl sd ⟨by omega, by omega, g3, g4, g5, g6, g7, g8⟩ hN)
    clear m0
    go_wp2_with ((go_at_call 20; refine HO.out.mono ?_; rintro y W2 ⟨rfl, hb2⟩; have H2 := Lib.hid hb2; clear hb2))
    go_ret2
    have hs1 := H1.out.2.size
    exact ⟨rfl, (HL.out.2.1.trans (H1.out.2.mono (by omega))).trans (H2.out.mono (by omega))⟩
end Go.Proofs.YtokflmiijdpchaaGreat
