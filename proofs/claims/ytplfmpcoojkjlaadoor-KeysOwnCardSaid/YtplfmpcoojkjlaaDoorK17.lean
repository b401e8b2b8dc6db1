/- The walk of counted and beyond. -/
import Derived.Test.YtplfmpcoojkjlaaDoorK16
import Derived.WalkKit
import Derived.Lib.Hide
import Derived.Test.YtplfmpcoojkjlaaDoorK2
namespace Go.Proofs.YtplfmpcoojkjlaaDoor
open Go.RowKit Go.Proofs.YtplfmpcoojkjlaaDoorW.PrintWords
def CntAt (n : Nat) : Prop := ∀ (w : World) (A : Option Addr) (c : Nat) (ms : List (LT PS)) (left : Int), LT.cnts ms ≤ n → RdL PS.enc w A ms → 0 ≤ left → left ≤ 131072 →
  Calls Tryd.prog 34 #[.slice A ms.length c, .int .i64 left] w fun e w' => e = .returned (.int .i64 (TT.counts (LT.pures ms) left)) ∧ w' = w
set_option maxRecDepth 100000 in
set_option maxHeartbeats 2000000 in
theorem cnt_of (n : Nat) (HI : ∀ m, m < n → CntAt m) : CntAt n := by
  intro w A c ms left hcnt hA h0 h1
  have HA := Lib.hid hA
  have HREC := Lib.hid HI
  have hmlen : ms.length ≤ 9223372036854775807 := hA.len
  clear hA HI
  by_cases hgt : left < (ms.length : Int)
  · go_enter Tryd.func34, Tryd.ntmps34
    go_wp2
    go_ret
    refine ⟨?_, rfl⟩
    rw [TT.counts, if_pos (by rw [LT.pures_length]; exact hgt)]
    rfl
  have hle : (ms.length : Int) ≤ left := by omega
  have hgl : decide (left < (ms.length : Int)) = false := decide_eq_false hgt
  have HG := Lib.hid hle
  have HF := Lib.hid (show TT.counts (LT.pures ms) left = TT.costs ((LT.pures ms).drop 0) left by rw [TT.counts, if_neg (by rw [LT.pures_length]; exact hgt), List.drop_zero])
  clear hgt hle
  go_enter Tryd.func34, Tryd.ntmps34
  go_wp2
  go_loopw [1, 5] (fun vl vi wr => ∃ (k : Nat) (left' : Int), k ≤ ms.length ∧ vi = .int .i64 k ∧ vl = .int .i64 left' ∧ 0 ≤ left' ∧ left' ≤ 131072 ∧ TT.counts (LT.pures ms) left = TT.costs ((LT.pures ms).drop k) left' ∧ w = wr) (fun _ vi _ => ms.length - (intOf vi).toNat)
  case atStart => exact ⟨0, left, by omega, rfl, rfl, h0, h1, HF.out, rfl⟩
  case round =>
    obtain ⟨k, l', hk, rfl, rfl, hl0, hl1, hf, rfl⟩ := hrel
    have HF2 := Lib.hid hf
    clear hf HF
    by_cases hlt : k < ms.length
    · obtain ⟨b, o, rfl, hblt, hcs, hrd⟩ := HA.out.get PS.enc5 k hlt
      have hdrop : (LT.pures ms).drop k = (ms[k]).pure :: (LT.pures ms).drop (k + 1) := by
        rw [drop_cons (show k < (LT.pures ms).length by rw [LT.pures_length]; exact hlt)]
        congr 1
        simp [LT.pures_map]
      have hcp : LT.cnts (ms[k]).parts < n := by
        have h1 := LT.cnt_parts ms[k]
        have h2 := LT.cnt_mem (List.getElem_mem hlt)
        omega
      generalize ms[k] = m at *
      obtain ⟨⟨kd, bb, nn, re, im⟩, th, tx, ph, ps⟩ := m
      have b5 : w.cell? ⟨b, o + k * 7 + 5, none⟩ = some (.slice th.A tx.length th.cap) := rd_cell7 5 hcs (by omega) rfl
      have b6 : w.cell? ⟨b, o + k * 7 + 6, none⟩ = some (.slice ph.A ps.length ph.cap) := rd_cell7 6 hcs (by omega) rfl
      have htl : tx.length ≤ 9223372036854775807 := hrd.textLen
      have HX := Lib.hid (show _ ∧ _ ∧ _ from ⟨hrd, hcp, hdrop⟩)
      clear hcs hrd hcp hdrop
      by_cases hneg : l' - 1 - (tx.length : Int) / 64 < 0
      · go_wp2
        go_ret
        refine ⟨?_, rfl⟩
        rw [HF2.out, HX.out.2.2, TT.costs, LT.pure, TT.cost_mk, if_pos (show l' - 1 - ((tx.length / 64 : Nat) : Int) < 0 by omega), if_pos (by omega)]
        rfl
      · have hnl : l' - 1 - (tx.length : Int) / 64 ≤ 131072 := by omega
        have hn0 : 0 ≤ l' - 1 - (tx.length : Int) / 64 := by omega
        have hnd : decide (l' - 1 - (tx.length : Int) / 64 < 0) = false := decide_eq_false hneg
        go_wp2_with fail
        refine (HREC.out (LT.cnts ps) HX.out.2.1 _ _ _ ps _ (Nat.le_refl _) HX.out.1.parts hn0 hnl).mono ?_
        rintro e w2 ⟨rfl, rfl⟩
        have hw := TT.counts_wt (LT.pures ps) (l' - 1 - (tx.length : Int) / 64) (by omega)
        have hstep : (TT.mk { kind := kd, b := bb, n := nn, re := re, im := im : PS } tx (LT.pures ps)).cost l' = TT.counts (LT.pures ps) (l' - 1 - (tx.length : Int) / 64) := by
          rw [TT.cost_mk, if_neg (by omega)]
          simp
        generalize TT.counts (LT.pures ps) (l' - 1 - (tx.length : Int) / 64) = r at *
        by_cases hr : r < 0
        · go_wp2
          go_ret
          refine ⟨?_, rfl⟩
          rw [HF2.out, HX.out.2.2, TT.costs, LT.pure, hstep, if_pos hr]
          rfl
        · have hrd2 : decide (r < 0) = false := decide_eq_false hr
          go_wp2
          go_roundw
          case rel => exact ⟨k + 1, r, by omega, by go_num, rfl, by omega, by omega, by rw [HF2.out, HX.out.2.2, TT.costs, LT.pure, hstep]; exact if_neg (by omega), by trivial⟩
          case measure => simp [intOf]; omega
    · go_wp2
      go_ret
      refine ⟨?_, rfl⟩
      rw [HF2.out, List.drop_eq_nil_of_le (by rw [LT.pures_length]; omega), TT.costs]
      rfl
theorem cnt_all (n : Nat) : CntAt n := by
  induction n using Nat.strongRecOn with
  | ind n ih => exact cnt_of n ih
theorem beyond_calls (w : World) (A : Option Addr) (c : Nat) (ms : List (LT PS)) (hA : RdL PS.enc w A ms) :
    Calls Tryd.prog 12 #[.slice A ms.length c] w fun e w' => e = .returned (.bool (decide (TT.counts (LT.pures ms) 131072 < 0))) ∧ w' = w := by
  have HA := Lib.hid hA
  clear hA
  go_enter Tryd.func12, Tryd.ntmps12
  go_wp2_with fail
  refine (cnt_all (LT.cnts ms) _ _ _ ms _ (Nat.le_refl _) HA.out (by omega) (by omega)).mono ?_
  rintro e w2 ⟨rfl, rfl⟩
  go_wp2
  go_ret
  exact ⟨rfl, rfl⟩
end Go.Proofs.YtplfmpcoojkjlaaDoor
