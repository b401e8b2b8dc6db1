/- The document's clean. -/
import Derived.Test.YtplfmpcoojkjlaaDoorK1
import Derived.Test.YtplfmpcoojkjlaaDoorK2
import Derived.Lib.Hide
namespace Go.Proofs.YtplfmpcoojkjlaaDoor
open Go.RowKit Go.Proofs.YtplfmpcoojkjlaaDoorW.PrintWords
theorem tmod_top (n : Nat) : (n : Int).tmod 9223372036854775808 = ((n % 9223372036854775808 : Nat) : Int) := by
  rw [Int.tmod_eq_emod_of_nonneg (by omega)]; rfl
set_option maxRecDepth 100000 in
set_option maxHeartbeats 1000000 in
theorem clean_calls (w : World) (n : Nat) (hn : n < 18446744073709551616) :
    Calls Tryd.prog 43 #[.int .u64 n] w fun e w' => e = .returned (.int .u64 (cleanB n)) ∧ w' = w := by
  have hmod : (0 : Int) ≤ n := by omega
  by_cases h : n % 9223372036854775808 > 9218868437227405312
  · have hc : cleanB n = 9221120237041090560 := by unfold cleanB top63 infB nanB; rw [if_pos h]
    have HC := Lib.hid hc
    clear hc
    go_enter Tryd.func43, Tryd.ntmps43
    go_wp2
    go_ret
    exact ⟨by rw [HC.out]; rfl, rfl⟩
  · have hc : cleanB n = n := by unfold cleanB top63 infB nanB; rw [if_neg h]
    have HC := Lib.hid hc
    clear hc
    go_enter Tryd.func43, Tryd.ntmps43
    go_wp2
    go_ret
    exact ⟨by rw [HC.out]; rfl, rfl⟩
theorem clean_int (w : World) (z : Int) (h0 : 0 ≤ z) (h1 : z < 18446744073709551616) :
    Calls Tryd.prog 43 #[.int .u64 z] w fun e w' => e = .returned (.int .u64 (cleanB z.toNat)) ∧ w' = w := by
  obtain ⟨n, rfl⟩ := Int.eq_ofNat_of_zero_le h0
  simpa using clean_calls w n (by omega)
end Go.Proofs.YtplfmpcoojkjlaaDoor
