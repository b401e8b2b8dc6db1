/- Snapshots: the small functions. -/
import Derived.Test.YtokflmiijdpchaaGreatD4
import Derived.Deep.Cut
namespace Go.Proofs.YtokflmiijdpchaaGreat
open Go.RowKit
theorem below_dn (w : World) (q : Nat) : Below w.heap.size w (w.drewN q) := ⟨rfl, rfl, rfl, Nat.le_refl _, fun _ _ => rfl⟩
/-- Snapshots' block. -/
def Sht (w : World) (s d : Nat) (from_ size gen : Int) (dead : Bool) : Prop := w.heap[s]? = some (.cells #[.pointer (some ⟨d, 0, none⟩), .int .i64 from_, .int .i64 size, .int .i64 gen, .bool dead] 132 (0, 0))
theorem within_calls (w : World) (x a b : Int) : Calls Tryz.prog 58 #[.int .i64 x, .int .i64 a, .int .i64 b] w fun e w' => e = .returned (.bool (decide (a ≤ x) && decide (x ≤ b))) ∧ w' = w := by
  go_enter Tryz.func58, Tryz.ntmps58
  go_wp2
  all_goals go_ret
  all_goals refine ⟨?_, rfl⟩
  all_goals congr 1
  all_goals simp
  all_goals omega
theorem most_calls (w : World) (s d : Nat) (f z g : Int) (dead : Bool) (h : Sht w s d f z g dead) (hz0 : 1 ≤ z) (hz1 : z ≤ 1048576) : Calls Tryz.prog 41 #[.pointer (some ⟨s, 0, none⟩)] w fun e w' => e = .returned (.int .i64 (64 * (z - 1))) ∧ w' = w := by
  have g2 := (cellD h 2).1
  clear h
  go_enter Tryz.func41, Tryz.ntmps41
  go_wp2
  go_ret
  exact ⟨rfl, rfl⟩
theorem slot_odd (w : World) (s d : Nat) (f z g : Int) (dead : Bool) (h : Sht w s d f z g dead) : Calls Tryz.prog 103 #[.pointer (some ⟨s, 0, none⟩), .int .i64 1] w fun e w' => e = .returned (.int .i64 f) ∧ w' = w := by
  have g1 := (cellD h 1).1
  clear h
  go_enter Tryz.func103, Tryz.ntmps103
  go_wp2
  go_ret
  exact ⟨rfl, rfl⟩
theorem slot_even (w : World) (s d : Nat) (f z g : Int) (dead : Bool) (h : Sht w s d f z g dead) (hf0 : 0 ≤ f) (hf1 : f ≤ 1048576) (hz0 : 0 ≤ z) (hz1 : z ≤ 1048576) : Calls Tryz.prog 103 #[.pointer (some ⟨s, 0, none⟩), .int .i64 0] w fun e w' => e = .returned (.int .i64 (f + z)) ∧ Below w.heap.size w w' := by
  have g1 := (cellD h 1).1
  have g2 := (cellD h 2).1
  clear h
  go_enter Tryz.func103, Tryz.ntmps103
  go_wp2
  go_quiet (fail)
  go_wp2
  go_ret
  exact ⟨rfl, below_dn w _⟩
/-- A number out of bytes that are all zero. -/
theorem got_zero (w : World) (b o n c : Nat) (hn : n ≤ 64) (h : ∀ j, j < n → w.cell? ⟨b, o + j, none⟩ = some (.int .u8 0)) : Calls Tryz.prog 105 #[.slice (some ⟨b, o, none⟩) n c] w fun e w' => e = .returned (.int .u64 0) ∧ w' = w := by
  have HB := Lib.hid h
  clear h
  go_enter Tryz.func105, Tryz.ntmps105
  go_wp2
  go_loop [2, 7] (fun v j => v = .int .u64 0 ∧ ∃ q : Nat, q ≤ n ∧ j = .int .i64 q) (fun _ j => n - (intOf j).toNat)
  case atStart => exact ⟨rfl, 0, by omega, rfl⟩
  case round =>
    obtain ⟨rfl, q, hq, rfl⟩ := hrel
    by_cases hlq : q < n
    · have hc := HB.out q hlq
      go_wp2
      exact ⟨⟨congrArg _ (show bits BinOp.or IntKind.u64 0 0 = 0 by decide), q + 1, by omega, by go_num⟩, by simp [intOf]; omega⟩
    · obtain rfl : q = n := by omega
      go_wp2
      go_ret
      exact ⟨rfl, rfl⟩
end Go.Proofs.YtokflmiijdpchaaGreat
