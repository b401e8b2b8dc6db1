/- Snapshots opened on a disk of zeros. -/
import Derived.Test.YtokflmiijdpchaaGreatD21
namespace Go.Proofs.YtokflmiijdpchaaGreat
open Go.RowKit
theorem Kp.set {U : Nat → Prop} {w W : World} (h : Kp U w W) (a : Addr) (v : Value) (hu : ∀ b, U b → b < W.heap.size ∧ b ≠ a.block) : Kp U w (W.setCell a v) := h.trans (Kp.of_grown (set_grown _ _ _) hu)
theorem Kp.drew {U : Nat → Prop} {w W : World} (h : Kp U w W) : Kp U w W.drew := ⟨h.os, h.tape, h.output, h.size, h.block⟩
set_option maxRecDepth 100000 in
set_option maxHeartbeats 4000000 in
theorem sopen_zero (w : World) (d N sb : Nat) (hd : Dsk w d N sb (.slice none 0 0) 0) (hz : Zro w sb N) (f z : Nat) (h0 : 2 ≤ z) (h1 : f + 2 * z ≤ N) :
    Calls Tryz.prog 35 #[.pointer (some ⟨d, 0, none⟩), .int .i64 f, .int .i64 z] w fun e w' => ∃ s, e = .returned (.tuple #[.pointer (some ⟨s, 0, none⟩), .slice none 0 0, .int .i64 0]) ∧ Sht w' s d f z 0 false ∧ Below w.heap.size w w' ∧ w.heap.size ≤ s := by
  have hmf : ∀ (fn : Fn) (first cap : Array Value) (w : World), (Instr.makeFunc fn first cap).run Tryz.prog w = .ok (.func fn first cap) w := fun _ _ _ _ => rfl
  have hr := hd.room
  have HD := Lib.hid (show _ ∧ _ from ⟨hd, hz⟩)
  have HB3 := Lib.hid (show ∀ o1 o2 o3 : Obj, Below w.heap.size w (((w.alloc o1).alloc o2).alloc o3) from fun o1 o2 o3 => (((Below.refl _ _).alloc (Nat.le_refl _) _).alloc (by simp) _).alloc (by simp; omega) _)
  clear hd hz
  have hw2 : wrap64 (2 * (z : Int)) = 2 * z := by simp only [wrap64]; omega
  have hw3 : wrap64 ((N : Int) - 2 * z) = N - 2 * z := by simp only [wrap64]; omega
  go_enter_defers Tryz.func35, Tryz.ntmps35
  go_wp2_with (first
    | (go_at_call 59; refine (sectors_calls _ d N sb 0 _ (HD.out.1.below (HB3.out _ _ _))).mono ?_; rintro e w2 ⟨rfl, hw⟩; obtain rfl := hw.symm))
  obtain ⟨W0, hW0⟩ : ∃ W0 : World, W0 = (((w.alloc (.cells #[.pointer none] 93)).alloc (.cells #[.slice none 0 0] 23)).alloc (.cells #[.int .i64 0] 25)).alloc (.cells #[.pointer (some ⟨d, 0, none⟩), .int .i64 f, .int .i64 z, .int .i64 0, .bool false] 132) := ⟨_, rfl⟩
  have b0 : W0.heap[w.heap.size]? = some (.cells #[.pointer none] 93 (0, 0)) := by
    rw [hW0, heap_alloc_old _ _ (by simp; omega), heap_alloc_old _ _ (by simp; omega), heap_alloc_old _ _ (by simp)]
    exact heap_alloc_new w _
  have b1 : W0.heap[w.heap.size + 1]? = some (.cells #[.slice none 0 0] 23 (0, 0)) := by
    rw [hW0, heap_alloc_old _ _ (by simp), heap_alloc_old _ _ (by simp)]
    simpa using heap_alloc_new (w.alloc (.cells #[.pointer none] 93)) (.cells #[.slice none 0 0] 23)
  have b2 : W0.heap[w.heap.size + 1 + 1]? = some (.cells #[.int .i64 0] 25 (0, 0)) := by
    rw [hW0, heap_alloc_old _ _ (by simp)]
    simpa using heap_alloc_new ((w.alloc (.cells #[.pointer none] 93)).alloc (.cells #[.slice none 0 0] 23)) (.cells #[.int .i64 0] 25)
  have b3 : Sht W0 (w.heap.size + 1 + 1 + 1) d f z 0 false := by
    rw [hW0]
    simpa [Sht] using heap_alloc_new (((w.alloc (.cells #[.pointer none] 93)).alloc (.cells #[.slice none 0 0] 23)).alloc (.cells #[.int .i64 0] 25)) (.cells #[.pointer (some ⟨d, 0, none⟩), .int .i64 f, .int .i64 z, .int .i64 0, .bool false] 132)
  have hB : Below w.heap.size w W0 := hW0 ▸ (HB3.out _ _ _).alloc (by simp; omega) _
  have hsz : W0.heap.size = w.heap.size + 4 := by rw [hW0]; simp
  rw [← hW0]
  clear hW0
  have H0 := Lib.hid (show _ ∧ _ ∧ _ ∧ _ ∧ _ from ⟨b0, b1, b2, b3, hB⟩)
  clear b0 b1 b2 b3 hB
  go_loopw [45] (fun v wr => ∃ j : Nat, j ≤ 2 ∧ v = .int .i64 j ∧ Below W0.heap.size W0 wr) (fun v _ => 2 - (intOf v).toNat)
  case atStart => exact ⟨0, by omega, rfl, Below.refl _ _⟩
  case round =>
    obtain ⟨j, hj, rfl, hb⟩ := hrel
    have HR := Lib.hid (show _ ∧ _ ∧ _ from ⟨hb, (hb.block _ (by omega)).trans H0.out.2.2.2.1, H0.out.2.2.2.2.trans (hb.mono (by omega))⟩)
    have hwz : w.heap.size ≤ wr.heap.size := by have := hb.size; omega
    clear hb
    by_cases hj2 : j < 2
    · have HSt : Calls Tryz.prog 62 #[.pointer (some ⟨w.heap.size + 1 + 1 + 1, 0, none⟩), .int .i64 j] wr fun e w' => e = .returned (.tuple #[.int .i64 0, .slice none 0 0, .bool false]) ∧ Below wr.heap.size wr w' := by
        have hd2 := HD.out.1.below HR.out.2.2
        have hz2 := zro_below HD.out.2 HR.out.2.2
        rcases (show j = 0 ∨ j = 1 by omega) with rfl | rfl
        · exact stands_zero wr (w.heap.size + 1 + 1 + 1) d f z 0 false HR.out.2.1 N sb hd2 hz2 0 (f + z) (by omega) fun W hW => slot_even W _ d f z 0 false hW (by omega) (by omega) (by omega) (by omega)
        · exact stands_zero wr (w.heap.size + 1 + 1 + 1) d f z 0 false HR.out.2.1 N sb hd2 hz2 1 f (by omega) fun W hW => (slot_odd W _ d f z 0 false hW).mono fun e w' ⟨h1, h2⟩ => ⟨h1, h2 ▸ Below.refl _ _⟩
      have HS2 := Lib.hid HSt
      clear HSt
      go_wp2_with (first
        | (go_at_call 62; refine HS2.out.mono ?_; rintro e w2 ⟨rfl, hb2⟩; have g3 := (cellD ((hb2.block _ (Array.getElem?_eq_some_iff.1 HR.out.2.1).1).trans HR.out.2.1) 3).1; have H2 := Lib.hid hb2; clear hb2))
      exact ⟨⟨j + 1, by omega, by go_num, HR.out.1.trans (H2.out.mono HR.out.1.size)⟩, by simp [intOf]; omega⟩
    · obtain rfl : j = 2 := by omega
      have k0 := (HR.out.1.block _ (by omega)).trans H0.out.1
      have k1 := (HR.out.1.block _ (by omega)).trans H0.out.2.1
      have k2 := (HR.out.1.block _ (by omega)).trans H0.out.2.2.1
      have c0 : wr.cell? ⟨w.heap.size, 0, none⟩ = some (.pointer none) := (cellD k0 0).1
      have c0f := (cellD k0 0).2
      have c1 : wr.cell? ⟨w.heap.size + 1, 0, none⟩ = some (.slice none 0 0) := (cellD k1 0).1
      have c1f := (cellD k1 0).2
      have c2 : wr.cell? ⟨w.heap.size + 1 + 1, 0, none⟩ = some (.int .i64 0) := (cellD k2 0).1
      have c2f := (cellD k2 0).2
      clear k0 k1 k2
      have hE : ((((wr.setCell ⟨w.heap.size, 0, none⟩ (.pointer (some ⟨w.heap.size + 1 + 1 + 1, 0, none⟩))).setCell ⟨w.heap.size + 1, 0, none⟩ (.slice none 0 0)).setCell ⟨w.heap.size + 1 + 1, 0, none⟩ (.int .i64 0)).setCell ⟨w.heap.size + 1 + 1, 0, none⟩ (.int .i64 0)).cell? ⟨w.heap.size + 1 + 1, 0, none⟩ = some (.int .i64 0) := World.cell?_setCell_same' _ _ _ (by simp [go_sem, c2])
      go_wp2
      go_region
      all_goals go_wp2
      refine leaves_cons (f := 60) (args := #[.pointer (some ⟨w.heap.size + 1 + 1, 0, none⟩), .pointer (some ⟨w.heap.size, 0, none⟩), .pointer (some ⟨w.heap.size + 1, 0, none⟩)]) (by simp) (by simp [go_sem]) ?_
      refine (sopen1_walk _ _ _ _ ?_ ?_).mono ?_
      · simp [go_sem, c2]
      · simp [go_sem, c2f]
      rintro e u' w'' ⟨rfl, rfl, rfl⟩
      simp [Leaves, settle, results, Tryz.results35, go_sem, c0, c1, hE]
      have hk : Kp (fun b => b < w.heap.size ∨ b = w.heap.size + 1 + 1 + 1) wr (((((wr.setCell ⟨w.heap.size, 0, none⟩ (.pointer (some ⟨w.heap.size + 1 + 1 + 1, 0, none⟩))).setCell ⟨w.heap.size + 1, 0, none⟩ (.slice none 0 0)).setCell ⟨w.heap.size + 1 + 1, 0, none⟩ (.int .i64 0)).setCell ⟨w.heap.size + 1 + 1, 0, none⟩ (.int .i64 0)).drew.drew) := by
        have hs4 := HR.out.1.size
        refine ((((((Kp.refl _ wr).set _ _ ?_).set _ _ ?_).set _ _ ?_).set _ _ ?_).drew).drew
        all_goals
          intro b hb
          constructor
          · try simp only [World.size_setCell]
            omega
          · simp only
            omega
      exact ⟨(hk.block _ (.inr rfl)).trans HR.out.2.1, HR.out.2.2.trans ((hk.mono fun b hb => .inl hb).to_below), by omega⟩
end Go.Proofs.YtokflmiijdpchaaGreat
