/- How the language orders real numbers, by their ranks. No program here. -/
import Derived.Test.YtplfmpcoojkjlaaDoorK44
namespace Go.Proofs.YtplfmpcoojkjlaaDoor
open Go.RowKit
/-- What a rung below infinity's stands for, in units of the least number. -/
def mag (r : Nat) : Nat := if r < 4503599627370496 then r else (4503599627370496 + r % 4503599627370496) * 2 ^ (r / 4503599627370496 - 1)
theorem mag_lt {r s : Nat} (h : r < s) : mag r < mag s := by
  unfold mag
  by_cases h1 : s < 4503599627370496
  · rw [if_pos h1, if_pos (by omega)]; exact h
  · rw [if_neg h1]
    have hp : ∀ k, 1 ≤ 2 ^ k := fun k => Nat.one_le_two_pow
    by_cases h2 : r < 4503599627370496
    · rw [if_pos h2]
      have := Nat.le_mul_of_pos_right (4503599627370496 + s % 4503599627370496) (hp (s / 4503599627370496 - 1))
      omega
    · rw [if_neg h2]
      by_cases h3 : r / 4503599627370496 = s / 4503599627370496
      · rw [h3]
        exact Nat.mul_lt_mul_of_pos_right (by omega) (hp _)
      · have h4 : r / 4503599627370496 < s / 4503599627370496 := by
          have := Nat.div_le_div_right (c := 4503599627370496) (Nat.le_of_lt h)
          omega
        obtain ⟨e, he⟩ : ∃ e, r / 4503599627370496 = e + 1 := ⟨r / 4503599627370496 - 1, by omega⟩
        obtain ⟨d, hd⟩ : ∃ d, s / 4503599627370496 = e + 1 + 1 + d := ⟨s / 4503599627370496 - (e + 2), by omega⟩
        rw [he, hd]
        have e1 : e + 1 - 1 = e := by omega
        have e2 : e + 1 + 1 + d - 1 = e + (1 + d) := by omega
        rw [e1, e2, Nat.pow_add, ← Nat.mul_assoc, Nat.mul_right_comm]
        refine Nat.mul_lt_mul_of_pos_right ?_ (hp e)
        have h5 : 2 ≤ 2 ^ (1 + d) := by
          have := Nat.pow_le_pow_right (show 0 < 2 by decide) (show 1 ≤ 1 + d by omega)
          simpa using this
        have h6 := Nat.mul_le_mul_left (4503599627370496 + s % 4503599627370496) h5
        have h7 := Nat.mod_lt r (show 0 < 4503599627370496 by decide)
        omega
theorem mag_le {r s : Nat} : (mag r < mag s) ↔ r < s := by
  constructor
  · intro h
    by_cases hs : r < s
    · exact hs
    · rcases Nat.lt_or_ge s r with h1 | h1
      · have := mag_lt h1; omega
      · have : r = s := by omega
        subst this; omega
  · exact mag_lt
theorem mag_zero {r : Nat} : mag r = 0 ↔ r = 0 := by
  constructor
  · intro h
    by_cases h0 : r = 0
    · exact h0
    · have := mag_lt (show 0 < r by omega)
      omega
  · rintro rfl; rfl
/-- A number with its sign. -/
def sg (s : Bool) (m : Nat) : Int := if s then -(m : Int) else m
/-- More than all numbers. -/
def bigN : Nat := mag infB
theorem mag_top {r : Nat} (h : r < infB) : mag r < bigN := mag_lt h
theorem bigN_pos : 0 < bigN := Nat.lt_of_le_of_lt (Nat.zero_le _) (mag_lt (show 0 < infB by decide))
/-- A word's number, in units of the least one; infinity beyond all. -/
def num (b : Nat) : Int := sg (decide (top63 ≤ b)) (if b % top63 = infB then bigN else mag (b % top63))
theorem signed_eq (s : Bool) (m k : Nat) : Ieee.signed s m k = sg s (m * 2 ^ k) := by
  unfold Ieee.signed sg
  rw [Nat.shiftLeft_eq]
theorem cmp_int (u v : Int) : compare u v = if u < v then .lt else if u = v then .eq else .gt := rfl
theorem cmp_mul (u v : Int) (c : Nat) (hc : 0 < c) : compare (u * (c : Int)) (v * (c : Int)) = compare u v := by
  have hp : (0 : Int) < c := by omega
  have h1 : u * (c : Int) < v * (c : Int) ↔ u < v := Int.mul_lt_mul_right hp
  have h2 : u * (c : Int) = v * (c : Int) ↔ u = v := Int.mul_eq_mul_right_iff (by omega)
  rw [cmp_int, cmp_int]
  simp only [h1, h2]
theorem sg_mul (s : Bool) (m c : Nat) : sg s m * (c : Int) = sg s (m * c) := by
  unfold sg
  split
  · rw [Int.neg_mul]; push_cast; rfl
  · push_cast; rfl
theorem order_num (s t : Bool) (m n a b : Nat) : Ieee.Datum.order (.number s m (-1074 + (a : Int))) (.number t n (-1074 + (b : Int))) = some (compare (sg s (m * 2 ^ a)) (sg t (n * 2 ^ b))) := by
  obtain ⟨c, hc⟩ : ∃ c, c = min a b := ⟨_, rfl⟩
  have ha : c ≤ a := by omega
  have hb : c ≤ b := by omega
  have e1 : (-1074 + (a : Int) - min (-1074 + (a : Int)) (-1074 + (b : Int))).toNat = a - c := by omega
  have e2 : (-1074 + (b : Int) - min (-1074 + (a : Int)) (-1074 + (b : Int))).toNat = b - c := by omega
  show some (compare (Ieee.signed s m _) (Ieee.signed t n _)) = _
  rw [e1, e2, signed_eq, signed_eq, ← cmp_mul _ _ (2 ^ c) (Nat.pow_pos (by decide)), sg_mul, sg_mul, Nat.mul_assoc, Nat.mul_assoc, ← Nat.pow_add, ← Nat.pow_add, Nat.sub_add_cancel ha, Nat.sub_add_cancel hb]
theorem read_word (x : Nat) (hx : x < 18446744073709551616) (nx : x % top63 ≤ infB) :
    (x % top63 = infB ∧ Ieee.double.read x = .infinity (decide (top63 ≤ x))) ∨ (x % top63 < infB ∧ ∃ m a : Nat, Ieee.double.read x = .number (decide (top63 ≤ x)) m (-1074 + (a : Int)) ∧ m * 2 ^ a = mag (x % top63)) := by
  have hs : Ieee.double.signWeight = 9223372036854775808 := by decide
  have hi : Ieee.double.infRung = 9218868437227405312 := by decide
  have hb : Ieee.double.binade = 4503599627370496 := by decide
  have hl : Ieee.double.leastPlace = -1074 := by decide
  have hg : (x / 9223372036854775808 % 2 == 1) = decide (top63 ≤ x) := by
    rw [Bool.eq_iff_iff]
    simp only [beq_iff_eq, decide_eq_true_eq]
    unfold top63
    omega
  unfold top63 infB at nx
  unfold Ieee.Format.read
  simp only [hs, hi, hb, hl, hg]
  rw [show top63 = 9223372036854775808 from rfl, show infB = 9218868437227405312 from rfl]
  by_cases h1 : x % 9223372036854775808 < 4503599627370496
  · refine .inr ⟨by omega, x % 9223372036854775808, 0, ?_, ?_⟩
    · rw [if_pos h1]; rfl
    · unfold mag; rw [if_pos h1]; simp
  · rw [if_neg h1]
    by_cases h2 : x % 9223372036854775808 < 9218868437227405312
    · refine .inr ⟨h2, 4503599627370496 + x % 9223372036854775808 % 4503599627370496, x % 9223372036854775808 / 4503599627370496 - 1, ?_, ?_⟩
      · rw [if_pos h2]
      · unfold mag; rw [if_neg h1]
    · rw [if_neg h2]
      exact .inl ⟨by omega, by rw [if_pos (by omega)]⟩
theorem cmp_lt {u v : Int} (h : u < v) : compare u v = .lt := by rw [cmp_int, if_pos h]
theorem cmp_gt {u v : Int} (h : v < u) : compare u v = .gt := by rw [cmp_int, if_neg (by omega), if_neg (by omega)]
theorem num_order (x y : Nat) (hx : x < 18446744073709551616) (hy : y < 18446744073709551616) (nx : x % top63 ≤ infB) (ny : y % top63 ≤ infB) :
    FloatKind.f64.format.order x y = some (compare (num x) (num y)) := by
  show Ieee.Datum.order (Ieee.double.read x) (Ieee.double.read y) = _
  unfold num
  have hB := bigN_pos
  rcases read_word x hx nx with ⟨h1, e1⟩ | ⟨h1, m, a, e1, g1⟩ <;> rcases read_word y hy ny with ⟨h2, e2⟩ | ⟨h2, n, b, e2, g2⟩
  · rw [e1, e2, if_pos h1, if_pos h2]
    generalize bigN = B at *
    generalize decide (top63 ≤ x) = s
    generalize decide (top63 ≤ y) = t
    show some (compare t.toNat s.toNat) = _
    congr 1
    cases s <;> cases t
    · rw [cmp_int, if_neg (by omega), if_pos rfl]; rfl
    · rw [cmp_gt (by unfold sg; simp; omega)]; rfl
    · rw [cmp_lt (by unfold sg; simp; omega)]; rfl
    · rw [cmp_int, if_neg (by omega), if_pos rfl]; rfl
  · rw [e1, e2, if_pos h1, if_neg (by omega)]
    have hm := mag_top h2
    generalize bigN = B at *
    generalize mag (y % top63) = M at *
    generalize decide (top63 ≤ x) = s
    generalize decide (top63 ≤ y) = t
    show some (if s then Ordering.lt else Ordering.gt) = _
    congr 1
    cases s
    · rw [cmp_gt (by unfold sg; cases t <;> simp <;> omega)]; rfl
    · rw [cmp_lt (by unfold sg; cases t <;> simp <;> omega)]; rfl
  · rw [e1, e2, if_neg (by omega), if_pos h2]
    have hm := mag_top h1
    generalize bigN = B at *
    generalize mag (x % top63) = M at *
    generalize decide (top63 ≤ x) = s
    generalize decide (top63 ≤ y) = t
    show some (if t then Ordering.gt else Ordering.lt) = _
    congr 1
    cases t
    · rw [cmp_lt (by unfold sg; cases s <;> simp <;> omega)]; rfl
    · rw [cmp_gt (by unfold sg; cases s <;> simp <;> omega)]; rfl
  · rw [e1, e2, order_num, g1, g2, if_neg (by omega), if_neg (by omega)]
def magI (r : Nat) : Nat := if r = infB then bigN else mag r
theorem magI_lt {r s : Nat} (h : r < s) (hs : s ≤ infB) : magI r < magI s := by
  unfold magI
  rw [if_neg (by omega)]
  by_cases h1 : s = infB
  · rw [if_pos h1]; exact mag_top (by omega)
  · rw [if_neg h1]; exact mag_lt h
theorem magI_inj {r s : Nat} (hr : r ≤ infB) (hs : s ≤ infB) (h : magI r = magI s) : r = s := by
  rcases Nat.lt_trichotomy r s with h1 | h1 | h1
  · have := magI_lt h1 hs; omega
  · exact h1
  · have := magI_lt h1 hr; omega
theorem magI_le {r s : Nat} (hr : r ≤ infB) (h : magI r < magI s) : r < s := by
  rcases Nat.lt_or_ge r s with h1 | h1
  · exact h1
  · by_cases h2 : r = s
    · subst h2; omega
    · have := magI_lt (show s < r by omega) hr; omega
theorem magI_zero : magI 0 = 0 := rfl
theorem num_magI (x : Nat) : num x = sg (decide (top63 ≤ x)) (magI (x % top63)) := rfl
theorem rank_num {x : Nat} (hx : x < 18446744073709551616) (nx : x % top63 ≤ infB) : rankB x = if top63 ≤ x then top63 - 1 - x % top63 else top63 + x % top63 := by
  unfold rankB
  rw [(cleanB_eq x).2 (.inl nx)]
  unfold top63
  split <;> split <;> omega
theorem num_lt {x y : Nat} (hx : x < 18446744073709551616) (hy : y < 18446744073709551616) (nx : x % top63 ≤ infB) (ny : y % top63 ≤ infB) (h : num x < num y) : rankB x < rankB y := by
  rw [num_magI, num_magI] at h
  rw [rank_num hx nx, rank_num hy ny]
  have hi : infB < top63 := by decide
  by_cases h1 : top63 ≤ x <;> by_cases h2 : top63 ≤ y <;> simp only [h1, h2, decide_true, decide_false, sg, if_true, if_false, Bool.false_eq_true] at h ⊢
  · have := magI_le ny (show magI (y % top63) < magI (x % top63) by omega)
    omega
  · omega
  · omega
  · have := magI_le nx (show magI (x % top63) < magI (y % top63) by omega)
    omega
theorem num_eq {x y : Nat} (hx : x < 18446744073709551616) (hy : y < 18446744073709551616) (nx : x % top63 ≤ infB) (ny : y % top63 ≤ infB) (h : num x = num y) : x = y ∨ (x % top63 = 0 ∧ y % top63 = 0) := by
  rw [num_magI, num_magI] at h
  have hz : ∀ r, r ≤ infB → magI r = 0 → r = 0 := fun r hr h => magI_inj hr (Nat.zero_le _) (h.trans magI_zero.symm)
  by_cases h1 : top63 ≤ x <;> by_cases h2 : top63 ≤ y <;> simp only [h1, h2, decide_true, decide_false, sg, if_true, if_false, Bool.false_eq_true] at h
  · have := magI_inj nx ny (show magI (x % top63) = magI (y % top63) by omega)
    unfold top63 at *
    omega
  · exact .inr ⟨hz _ nx (by omega), hz _ ny (by omega)⟩
  · exact .inr ⟨hz _ nx (by omega), hz _ ny (by omega)⟩
  · have := magI_inj nx ny (show magI (x % top63) = magI (y % top63) by omega)
    unfold top63 at *
    omega
theorem rank_nan {x : Nat} (nx : ¬ x % top63 ≤ infB) : rankB x = top63 + nanB := by
  have hc : cleanB x = nanB := by unfold cleanB; rw [if_pos (by omega)]
  unfold rankB
  rw [hc, if_pos (by decide)]
  exact Nat.add_comm _ _
end Go.Proofs.YtplfmpcoojkjlaaDoor
