/- The walk of the document's Fault. -/
import Derived.Test.YtplfmpcoojkjlaaDoorK22
import Derived.Test.YtplfmpcoojkjlaaDoorK2
import Derived.Lib.Hide
namespace Go.Proofs.YtplfmpcoojkjlaaDoor
open Go.RowKit Go.Proofs.YtplfmpcoojkjlaaDoorW.PrintWords
def FltAt (n : Nat) : Prop := ∀ (w : World) (A : Option Addr) (c : Nat) (ms : List (LT PS)) (deep : Nat), LT.cnts ms ≤ n → RdL PS.enc w A ms → deep ≤ 16 →
  Calls Tryd.prog 35 #[.slice A ms.length c, .int .i64 deep] w fun e w' => e = .returned (.int .i64 (TT.flts PS.kind (LT.pures ms) deep)) ∧ Drawn0 w w'
set_option maxRecDepth 100000 in
set_option maxHeartbeats 2000000 in
theorem flt_of (n : Nat) (HI : ∀ m, m < n → FltAt m) : FltAt n := by
  intro w A c ms deep hcnt hA hd
  have HA := Lib.hid hA
  have HREC := Lib.hid HI
  have hmlen : ms.length ≤ 9223372036854775807 := hA.len
  clear hA HI
  go_enter Tryd.func35, Tryd.ntmps35
  go_wp2
  go_loopw [5] (fun vi wr => ∃ (k : Nat), k ≤ ms.length ∧ vi = .int .i64 k ∧ TT.flts PS.kind (LT.pures ms) deep = TT.flts PS.kind ((LT.pures ms).drop k) deep ∧ Drawn0 w wr) (fun vi _ => ms.length - (intOf vi).toNat)
  case atStart => exact ⟨0, by omega, rfl, by rw [List.drop_zero], 0, rfl⟩
  case round =>
    obtain ⟨k, hk, rfl, hf, ⟨nd, rfl⟩⟩ := hrel
    have HF2 := Lib.hid hf
    clear hf
    by_cases hlt : k < ms.length
    · obtain ⟨b, o, rfl, hblt, hcs, hrd⟩ := HA.out.get PS.enc5 k hlt
      have hdrop : (LT.pures ms).drop k = (ms[k]).pure :: (LT.pures ms).drop (k + 1) := by
        rw [drop_cons (show k < (LT.pures ms).length by rw [LT.pures_length]; exact hlt)]
        congr 1
        simp [LT.pures_map]
      have hcp : LT.cnts (ms[k]).parts < n := by
        have h1 := LT.cnt_parts ms[k]
        have h2 := LT.cnt_mem (List.getElem_mem hlt)
        omega
      generalize ms[k] = m at *
      obtain ⟨⟨kd, bb, nn, re, im⟩, th, tx, ph, ps⟩ := m
      have b0 : w.cell? ⟨b, o + k * 7, none⟩ = some (.int .i64 kd) := rd_cell7 0 hcs (by omega) rfl
      have b6 : w.cell? ⟨b, o + k * 7 + 6, none⟩ = some (.slice ph.A ps.length ph.cap) := rd_cell7 6 hcs (by omega) rfl
      have hfl : TT.flt PS.kind (LT.mk (⟨kd, bb, nn, re, im⟩ : PS) th tx ph ps).pure deep = if kd < 1 ∨ 7 < kd then 40 else if kd = 7 then (if deep = 16 then 41 else TT.flts PS.kind (LT.pures ps) (deep + 1)) else 0 := by
        simp only [LT.pure, TT.flt]
      have HX := Lib.hid (show _ ∧ _ ∧ _ ∧ _ from ⟨hrd, hcp, hdrop, hfl⟩)
      clear hcs hrd hcp hdrop hfl
      have hend : ∀ r : Int, r ≠ 0 → TT.flt PS.kind (LT.mk (⟨kd, bb, nn, re, im⟩ : PS) th tx ph ps).pure deep = r → TT.flts PS.kind (LT.pures ms) deep = r := fun r h0 hr => by
        rw [HF2.out, HX.out.2.2.1, TT.flts, hr, if_neg h0]
      have hgo : TT.flt PS.kind (LT.mk (⟨kd, bb, nn, re, im⟩ : PS) th tx ph ps).pure deep = 0 → TT.flts PS.kind (LT.pures ms) deep = TT.flts PS.kind ((LT.pures ms).drop (k + 1)) deep := fun hr => by
        rw [HF2.out, HX.out.2.2.1, TT.flts, hr, if_pos rfl]
      have HE := Lib.hid (show _ ∧ _ from ⟨hend, hgo⟩)
      clear hend hgo
      by_cases h1 : kd < 1
      · have h1b : decide (kd < 1) = true := decide_eq_true h1
        go_wp2
        go_ret
        exact ⟨by rw [HE.out.1 40 (by decide) (by rw [HX.out.2.2.2, if_pos (Or.inl h1)])]; rfl, nd, rfl⟩
      have h1b : decide (kd < 1) = false := decide_eq_false h1
      by_cases h7 : 7 < kd
      · have h7b : decide (7 < kd) = true := decide_eq_true h7
        go_wp2
        go_ret
        exact ⟨by rw [HE.out.1 40 (by decide) (by rw [HX.out.2.2.2, if_pos (Or.inr h7)])]; rfl, _, rfl⟩
      have h7b : decide (7 < kd) = false := decide_eq_false h7
      by_cases he : kd = 7
      · subst he
        by_cases h16 : deep = 16
        · subst h16
          go_wp2
          go_ret
          exact ⟨by rw [HE.out.1 41 (by decide) (by rw [HX.out.2.2.2, if_neg (by omega)]; simp)]; rfl, _, rfl⟩
        · have h16b : ((deep : Int) == 16) = false := by simp; omega
          have hdd : deep + 1 ≤ 16 := by omega
          have hrec : ∀ w', Drawn0 w w' → Calls Tryd.prog 35 #[.slice ph.A ps.length ph.cap, .int .i64 ((deep : Int) + 1)] w' fun e w'' => e = .returned (.int .i64 (TT.flts PS.kind (LT.pures ps) (deep + 1))) ∧ Drawn0 w' w'' := fun w' hw => by
            obtain ⟨q, rfl⟩ := hw
            have := HREC.out (LT.cnts ps) HX.out.2.1 (w.drewN q) ph.A ph.cap ps (deep + 1) (Nat.le_refl _) (HX.out.1.parts.below (pw_below_drewN (Below.refl _ _) _)) hdd
            simpa using this
          have HRC := Lib.hid hrec
          clear hrec
          go_wp2_with fail
          refine (HRC.out _ ⟨_, rfl⟩).mono ?_
          rintro e w2 ⟨rfl, ⟨nd2, rfl⟩⟩
          have hflt : TT.flt PS.kind (LT.mk (⟨7, bb, nn, re, im⟩ : PS) th tx ph ps).pure deep = TT.flts PS.kind (LT.pures ps) (deep + 1) := by
            rw [HX.out.2.2.2, if_neg (by omega)]; simp [h16]
          generalize TT.flts PS.kind (LT.pures ps) (deep + 1) = r at *
          by_cases hr : r = 0
          · subst hr
            have HG := Lib.hid (HE.out.2 hflt)
            clear hflt
            go_wp2
            go_roundw
            case rel => exact ⟨k + 1, by omega, by go_num, HG.out, _, rfl⟩
            case measure => simp [intOf]; omega
          · have hrb : (r != 0) = true := by simpa using hr
            have HG := Lib.hid (HE.out.1 r hr hflt)
            clear hflt hr
            go_wp2
            go_ret
            exact ⟨by rw [HG.out]; rfl, _, rfl⟩
      · have heb : (kd == 7) = false := by simpa using he
        have HG := Lib.hid (HE.out.2 (by rw [HX.out.2.2.2, if_neg (by omega), if_neg he]))
        clear he
        go_wp2
        go_roundw
        case rel => exact ⟨k + 1, by omega, by go_num, HG.out, _, rfl⟩
        case measure => simp [intOf]; omega
    · go_wp2
      go_ret
      refine ⟨?_, nd, rfl⟩
      rw [HF2.out, List.drop_eq_nil_of_le (by rw [LT.pures_length]; omega), TT.flts]
      rfl
theorem flt_all (n : Nat) : FltAt n := by
  induction n using Nat.strongRecOn with
  | ind n ih => exact flt_of n ih
end Go.Proofs.YtplfmpcoojkjlaaDoor
