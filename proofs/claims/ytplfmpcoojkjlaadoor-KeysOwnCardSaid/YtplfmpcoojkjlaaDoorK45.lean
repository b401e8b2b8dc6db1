/- How long codes are; noughts in texts; the answers of Encode. No program here. -/
import Derived.Test.YtplfmpcoojkjlaaDoorK44
import Derived.Test.YtplfmpcoojkjlaaDoorK3
namespace Go.Proofs.YtplfmpcoojkjlaaDoor
open Go.RowKit
def cnt0 : List Int → Nat
  | [] => 0
  | c :: r => (if c = 0 then 1 else 0) + cnt0 r
theorem esc_len : ∀ (xs : List Int), (esc xs).length = xs.length + cnt0 xs
  | [] => rfl
  | c :: r => by
    have ih := esc_len r
    by_cases h : c = 0
    · rw [show esc (c :: r) = 0 :: 255 :: esc r from if_pos h, show cnt0 (c :: r) = 1 + cnt0 r from by simp [cnt0, h]]
      simp only [List.length_cons]
      omega
    · rw [show esc (c :: r) = c :: esc r from if_neg h, show cnt0 (c :: r) = cnt0 r from by simp [cnt0, h]]
      simp only [List.length_cons]
      omega
theorem cnt0_le : ∀ (xs : List Int), cnt0 xs ≤ xs.length
  | [] => Nat.le_refl _
  | c :: r => by
    have ih := cnt0_le r
    simp only [cnt0, List.length_cons]
    split <;> omega
theorem esc_app : ∀ (xs ys : List Int), esc (xs ++ ys) = esc xs ++ esc ys
  | [], ys => rfl
  | c :: r, ys => by
    have ih := esc_app r ys
    by_cases h : c = 0
    · rw [List.cons_append, show esc (c :: (r ++ ys)) = 0 :: 255 :: esc (r ++ ys) from if_pos h, show esc (c :: r) = 0 :: 255 :: esc r from if_pos h, ih]
      rfl
    · rw [List.cons_append, show esc (c :: (r ++ ys)) = c :: esc (r ++ ys) from if_neg h, show esc (c :: r) = c :: esc r from if_neg h, ih]
      rfl
theorem esc_none : ∀ (xs : List Int), cnt0 xs = 0 → esc xs = xs
  | [], _ => rfl
  | c :: r, h => by
    simp only [cnt0] at h
    have hc : c ≠ 0 := fun e => by rw [if_pos e] at h; omega
    rw [show esc (c :: r) = c :: esc r from if_neg hc, esc_none r (by omega)]
theorem idx0_spec : ∀ (ys : List Int), 0 < cnt0 ys → ∃ i : Nat, idx0 ys = i ∧ i < ys.length ∧ ys = ys.take i ++ 0 :: ys.drop (i + 1) ∧ cnt0 (ys.take i) = 0 ∧ cnt0 (ys.drop (i + 1)) + 1 = cnt0 ys
  | [], h => by simp [cnt0] at h
  | c :: r, h => by
    by_cases hc : c = 0
    · refine ⟨0, by simp [idx0, hc], by simp, by simp [hc], rfl, ?_⟩
      simp only [cnt0, hc, if_true, List.drop_succ_cons, List.drop_zero]
      omega
    · have h1 : cnt0 (c :: r) = cnt0 r := by simp [cnt0, hc]
      obtain ⟨i, h2, h3, h4, h5, h6⟩ := idx0_spec r (by omega)
      refine ⟨i + 1, ?_, by simp; omega, ?_, ?_, ?_⟩
      · simp only [idx0, if_neg hc, h2]
        rw [if_neg (by omega)]
        omega
      · rw [List.take_succ_cons, List.drop_succ_cons, List.cons_append, ← h4]
      · rw [List.take_succ_cons]
        simp [cnt0, hc, h5]
      · rw [List.drop_succ_cons, h1, h6]
theorem cnt0_lib (xs : List Int) (h : Byt xs) : Lib.countByte (Lib.bytesOf xs) 0 = cnt0 xs := by
  induction xs with
  | nil => rfl
  | cons c r ih =>
    have h1 := ih h.cons.2
    have h2 := h.cons.1
    have hb : (UInt8.ofNat c.toNat == 0) = decide (c = 0) := by
      rw [Bool.eq_iff_iff]
      simp only [beq_iff_eq, decide_eq_true_eq]
      constructor
      · intro hc
        have h3 := congrArg UInt8.toNat hc
        simp at h3
        omega
      · rintro rfl; rfl
    unfold Lib.countByte at h1 ⊢
    rw [show Lib.bytesOf (c :: r) = UInt8.ofNat c.toNat :: Lib.bytesOf r from rfl, List.count_cons, hb]
    simp only [cnt0]
    by_cases hc : c = 0
    · simp only [hc, decide_true, if_true]
      omega
    · simp only [hc, decide_false, if_false]
      simp
      omega
/-! ### how long a code is -/
mutual
theorem codT_len : ∀ (p : TT PS), (codT p).length ≤ 132 * p.wt
  | .mk s t ps => by
    have h1 := esc_len t
    have h2 := cnt0_le t
    have h3 := codL_len ps
    simp only [codT, TT.wt, List.length_cons]
    repeat' split
    all_goals simp only [List.length_append, List.length_cons, List.length_nil, be_length]
    all_goals omega
theorem codL_len : ∀ (ps : List (TT PS)), (codL ps).length ≤ 132 * TT.wts ps
  | [] => by simp [codL]
  | p :: ps => by
    have h1 := codT_len p
    have h2 := codL_len ps
    simp only [codL, TT.wts, List.length_append]
    omega
end
mutual
theorem codT_byt : ∀ (p : TT PS) (deep : Nat), p.flt PS.kind deep = 0 → p.all PS.fits → Byt (codT p)
  | .mk s t ps, deep, hf, hp => by
    have kp := flt_ok hf
    have ht : Byt t := hp.1.1.2.2
    have h0 : ∀ (x : Int) (xs : List Int), 0 ≤ x ∧ x < 256 → Byt xs → Byt (x :: xs) := fun x xs hx hxs y hy => by
      rcases List.mem_cons.1 hy with rfl | hy
      · exact hx
      · exact hxs y hy
    simp only [codT]
    refine h0 _ _ (by omega) ?_
    split
    · cases s.b <;> exact h0 _ _ (by simp [b2i]) Byt.nil
    split
    · exact be_byt _ _
    split
    · exact be_byt _ _
    split
    · exact (be_byt _ _).append (be_byt _ _)
    split
    · exact (esc_byt _ ht).append (h0 _ _ (by omega) Byt.nil)
    split
    · rename_i h7
      exact (codL_byt ps _ (kp.2.2 h7).2 hp.2).append (h0 _ _ (by omega) Byt.nil)
    · exact Byt.nil
theorem codL_byt : ∀ (ps : List (TT PS)) (deep : Nat), TT.flts PS.kind ps deep = 0 → TT.alls PS.fits ps → Byt (codL ps)
  | [], _, _, _ => Byt.nil
  | p :: ps, deep, hf, hp => by
    simp only [codL]
    exact (codT_byt p deep (flts_cons hf).1 hp.1).append (codL_byt ps deep (flts_cons hf).2 hp.2)
end
/-- What Encode answers: the code of a good row, else nothing. -/
def encS (ps : List (TT PS)) : List Int := if TT.flts PS.kind ps 0 = 0 then codL ps else []
theorem encS_len (ps : List (TT PS)) : (encS ps).length ≤ 132 * TT.wts ps := by
  unfold encS
  split
  · exact codL_len ps
  · simp
theorem encS_byt (ps : List (TT PS)) (h : TT.alls PS.fits ps) : Byt (encS ps) := by
  unfold encS
  split
  · rename_i hf
    exact codL_byt ps 0 hf h
  · exact Byt.nil
end Go.Proofs.YtplfmpcoojkjlaaDoor
