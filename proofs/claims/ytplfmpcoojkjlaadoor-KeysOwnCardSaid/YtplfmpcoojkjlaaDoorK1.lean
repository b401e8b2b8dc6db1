/- What bytes are the code of: the rows that they are read as, as plain functions on lists of numbers. No program here. -/
import Derived.Test.YtplfmpcoojkjlaaDoorK0
import GoSem.Core.Float
namespace Go.Proofs.YtplfmpcoojkjlaaDoor
open Go.RowKit

inductive Res (α : Type) where
  | ok (a : α)
  | err (e : Int)

def top63 : Nat := 9223372036854775808
def nanB : Nat := 9221120237041090560
def infB : Nat := 9218868437227405312
/-- The bits, of every NaN those of the one. -/
def cleanB (b : Nat) : Nat := if b % top63 > infB then nanB else b
def be8 (xs : List Int) : Nat := xs.foldl (fun n c => 256 * n + c.toNat) 0
def unrankB (n : Nat) : Nat := if n ≥ top63 then n - top63 else 18446744073709551615 - n
def rankB (b : Nat) : Nat := if cleanB b < top63 then cleanB b + top63 else 18446744073709551615 - cleanB b

theorem be8_snoc (xs : List Int) (c : Int) : be8 (xs ++ [c]) = 256 * be8 xs + c.toNat := by simp [be8]
theorem be8_lt_from : ∀ (xs : List Int), Byt xs → ∀ n : Nat, xs.foldl (fun n c => 256 * n + c.toNat) n < (n + 1) * 256 ^ xs.length
  | [], _, n => by simp
  | c :: xs, h, n => by
    have h1 := be8_lt_from xs h.cons.2 (256 * n + c.toNat)
    have h2 := h.cons.1
    have h3 : (256 * n + c.toNat + 1) * 256 ^ xs.length ≤ ((n + 1) * 256) * 256 ^ xs.length := Nat.mul_le_mul_right _ (by omega)
    have h4 : ((n + 1) * 256) * 256 ^ xs.length = (n + 1) * 256 ^ (c :: xs).length := by rw [List.length_cons, Nat.pow_succ, Nat.mul_assoc, Nat.mul_comm 256]
    show (xs.foldl _ (256 * n + c.toNat)) < _
    omega
theorem be8_lt (xs : List Int) (h : Byt xs) : be8 xs < 256 ^ xs.length := by
  have := be8_lt_from xs h 0
  simpa [be8] using this
theorem take_snoc {xs : List Int} {k : Nat} (h : k < xs.length) : xs.take (k + 1) = xs.take k ++ [xs[k]] := by
  rw [List.take_succ_eq_append_getElem h]
theorem be8_bound {xs : List Int} (h : Byt xs) {k : Nat} (hk : k ≤ 8) : be8 (xs.take k) < 18446744073709551616 := by
  have h1 := be8_lt (xs.take k) (h.take k)
  have h2 : (xs.take k).length ≤ 8 := by rw [List.length_take]; omega
  have h3 : 256 ^ (xs.take k).length ≤ 256 ^ 8 := Nat.pow_le_pow_right (by decide) h2
  have h4 : (256 : Nat) ^ 8 = 18446744073709551616 := by decide
  omega

/-- A text up to a 0 that no 255 follows: it, and what is left. -/
def textS : List Int → Option (List Int × List Int)
  | [] => none
  | c :: r =>
    if c = 0 then
      match r with
      | [] => some ([], [])
      | d :: r' => if d = 255 then (textS r').map (fun x => (0 :: x.1, x.2)) else some ([], d :: r')
    else (textS r).map (fun x => (c :: x.1, x.2))

def PS.of (kind : Int) : PS := ⟨kind, false, 0, 0, 0⟩
abbrev P := TT PS

mutual
/-- One value that is in so many tuples, at the head of bytes. -/
def takeS : Nat → List Int → Nat → Res (P × List Int)
  | 0, _, _ => .err 40
  | _ + 1, [], _ => .err 40
  | f + 1, k :: q, deep =>
    if k = 1 then .ok (.mk (.of 1) [] [], q)
    else if k = 2 then
      match q with
      | [] => .err 40
      | b :: r => if b < 2 then .ok (.mk ⟨2, b == 1, 0, 0, 0⟩ [] [], r) else .err 40
    else if k = 3 then
      if q.length < 8 then .err 40 else .ok (.mk ⟨3, false, (be8 (q.take 8) : Int) - top63, 0, 0⟩ [] [], q.drop 8)
    else if k = 4 then
      if q.length < 8 then .err 40
      else if cleanB (unrankB (be8 (q.take 8))) = unrankB (be8 (q.take 8)) then .ok (.mk ⟨4, false, 0, unrankB (be8 (q.take 8)), 0⟩ [] [], q.drop 8) else .err 40
    else if k = 5 then
      if q.length < 16 then .err 40
      else if cleanB (unrankB (be8 (q.take 8))) = unrankB (be8 (q.take 8)) ∧ cleanB (unrankB (be8 ((q.drop 8).take 8))) = unrankB (be8 ((q.drop 8).take 8)) then .ok (.mk ⟨5, false, 0, unrankB (be8 (q.take 8)), unrankB (be8 ((q.drop 8).take 8))⟩ [] [], q.drop 16) else .err 40
    else if k = 6 then
      match textS q with
      | none => .err 40
      | some (t, r) => .ok (.mk (.of 6) t [], r)
    else if k = 7 then
      if deep = 16 then .err 41
      else match tupS f q (deep + 1) with
        | .err e => .err e
        | .ok (ps, r) => .ok (.mk (.of 7) [] ps, r)
    else .err 40
/-- Values up to a 0. -/
def tupS : Nat → List Int → Nat → Res (List P × List Int)
  | 0, _, _ => .err 40
  | _ + 1, [], _ => .err 40
  | f + 1, k :: q, deep =>
    if k = 0 then .ok ([], q)
    else match takeS f (k :: q) deep with
      | .err e => .err e
      | .ok (p, r) => match tupS f r deep with
        | .err e => .err e
        | .ok (ps, r') => .ok (p :: ps, r')
end
/-- Values up to the end. -/
def decS : Nat → List Int → Res (List P)
  | 0, _ => .err 40
  | _ + 1, [] => .ok []
  | f + 1, k :: q => match takeS f (k :: q) 0 with
    | .err e => .err e
    | .ok (p, r) => match decS f r with
      | .err e => .err e
      | .ok ps => .ok (p :: ps)

theorem textS_len : ∀ (n : Nat) (q t r : List Int), q.length ≤ n → textS q = some (t, r) → t.length + r.length < q.length ∧ ∃ j, r = q.drop j
  | _, [], t, r, _, h => by simp [textS] at h
  | 0, c :: q, t, r, hn, _ => absurd hn (by simp)
  | n + 1, [c], t, r, _, h => by
    unfold textS at h
    split at h
    · obtain ⟨rfl, rfl⟩ : [] = t ∧ [] = r := by simpa using h
      exact ⟨by simp, 1, rfl⟩
    · simp [textS] at h
  | n + 1, c :: d :: q, t, r, hn, h => by
    unfold textS at h
    split at h
    · dsimp only at h
      split at h
      · obtain ⟨⟨t', r'⟩, h1, h2⟩ := Option.map_eq_some_iff.1 h
        simp only [Prod.mk.injEq] at h2
        obtain ⟨rfl, rfl⟩ := h2
        obtain ⟨h3, j, h4⟩ := textS_len n q t' r' (by simp at hn; omega) h1
        exact ⟨by simp; omega, j + 2, by simpa using h4⟩
      · obtain ⟨rfl, rfl⟩ : [] = t ∧ d :: q = r := by simpa using h
        exact ⟨by simp, 1, rfl⟩
    · obtain ⟨⟨t', r'⟩, h1, h2⟩ := Option.map_eq_some_iff.1 h
      simp only [Prod.mk.injEq] at h2
      obtain ⟨rfl, rfl⟩ := h2
      obtain ⟨h3, j, h4⟩ := textS_len n (d :: q) t' r' (by simpa using hn) h1
      exact ⟨by simp at h3 ⊢; omega, j + 1, by simpa using h4⟩
/-- What is left is an end of what was there, and shorter. -/
theorem rest_len (f : Nat) : (∀ q deep p r, takeS f q deep = .ok (p, r) → r.length < q.length ∧ ∃ j, r = q.drop j) ∧ (∀ q deep ps r, tupS f q deep = .ok (ps, r) → r.length < q.length ∧ ∃ j, r = q.drop j) := by
  induction f with
  | zero => exact ⟨fun q deep p r h => by simp [takeS] at h, fun q deep ps r h => by simp [tupS] at h⟩
  | succ f ih =>
    obtain ⟨ih1, ih2⟩ := ih
    refine ⟨fun q deep p r h => ?_, fun q deep ps r h => ?_⟩
    · cases q with
      | nil => simp [takeS] at h
      | cons k q =>
        unfold takeS at h
        split at h
        · cases h; exact ⟨by simp, 1, rfl⟩
        split at h
        · split at h
          · cases h
          · split at h
            · cases h; exact ⟨by simp; omega, 2, rfl⟩
            · cases h
        split at h
        · split at h
          · cases h
          · cases h; exact ⟨by simp; omega, 9, rfl⟩
        split at h
        · split at h
          · cases h
          · split at h
            · cases h; exact ⟨by simp; omega, 9, rfl⟩
            · cases h
        split at h
        · split at h
          · cases h
          · split at h
            · cases h; exact ⟨by simp; omega, 17, rfl⟩
            · cases h
        split at h
        · split at h
          · cases h
          · rename_i t r' ht
            cases h
            obtain ⟨h1, j, h2⟩ := textS_len _ q _ _ (Nat.le_refl _) ht
            exact ⟨by simp; omega, j + 1, by simpa using h2⟩
        split at h
        · split at h
          · cases h
          · split at h
            · cases h
            · rename_i ps r' ht
              cases h
              obtain ⟨h1, j, h2⟩ := ih2 _ _ _ _ ht
              exact ⟨by simp; omega, j + 1, by simpa using h2⟩
        · cases h
    · cases q with
      | nil => simp [tupS] at h
      | cons k q =>
        unfold tupS at h
        split at h
        · cases h; exact ⟨by simp, 1, rfl⟩
        · split at h
          · cases h
          · rename_i p r1 ht
            split at h
            · cases h
            · rename_i ps' r2 ht2
              cases h
              obtain ⟨h1, j, h2⟩ := ih1 _ _ _ _ ht
              obtain ⟨h3, i, h4⟩ := ih2 _ _ _ _ ht2
              exact ⟨by omega, j + i, by rw [h4, h2, List.drop_drop]⟩

/-- A value as the program answers it: the real number in Real of a real one, in Point of a point. -/
def PS.ans (s : PS) : VS := ⟨s.kind, s.b, s.n, if s.kind = 4 then s.re else 0, if s.kind = 5 then s.re else 0, if s.kind = 5 then s.im else 0⟩
/-- A value as the program is handed it: all fields of it are set. -/
def PS.all (s : PS) : VS := ⟨s.kind, s.b, s.n, s.re, s.re, s.im⟩
/-! ### words of numbers -/
theorem xor_top (n : Nat) (hn : n < 18446744073709551616) : n ^^^ 9223372036854775808 = if n < 9223372036854775808 then n + 9223372036854775808 else n - 9223372036854775808 := by
  have key : ∀ m : Nat, m < 2 ^ 63 → m ^^^ 2 ^ 63 = 2 ^ 63 + m := by
    intro m hm
    refine Nat.eq_of_testBit_eq fun j => ?_
    rw [Nat.testBit_xor, Nat.testBit_two_pow]
    rcases Nat.lt_trichotomy j 63 with h | h | h
    · rw [Nat.testBit_two_pow_add_gt h]; simp [show ¬ 63 = j by omega]
    · subst h; rw [Nat.testBit_two_pow_add_eq]; simp
    · have h1 : m.testBit j = false := Nat.testBit_lt_two_pow (Nat.lt_of_lt_of_le hm (Nat.pow_le_pow_right (by decide) (by omega)))
      have h2 : (2 ^ 63 + m).testBit j = false := Nat.testBit_lt_two_pow (Nat.lt_of_lt_of_le (show 2 ^ 63 + m < 2 ^ 64 by omega) (Nat.pow_le_pow_right (by decide) (by omega)))
      rw [h1, h2]; simp [show ¬ 63 = j by omega]
  split
  · have := key n (by omega)
    rw [show (9223372036854775808 : Nat) = 2 ^ 63 by decide, this]; omega
  · have := key (n - 9223372036854775808) (by omega)
    have h1 : n = (n - 9223372036854775808) ^^^ 2 ^ 63 := by rw [this]; omega
    rw [h1, Nat.xor_assoc, show (2 ^ 63 : Nat) = 9223372036854775808 by decide, Nat.xor_self, Nat.xor_zero]
    rw [show (9223372036854775808 : Nat) = 2 ^ 63 by decide, this]; omega
theorem and_top (n : Nat) (hn : n < 18446744073709551616) : n &&& 9223372036854775808 = if n < 9223372036854775808 then 0 else 9223372036854775808 := by
  rw [show (9223372036854775808 : Nat) = 2 ^ 63 by decide]
  have h63 : n.testBit 63 = decide (¬ n < 2 ^ 63) := by
    by_cases h : n < 2 ^ 63
    · rw [Nat.testBit_lt_two_pow h]; simp [h]
    · have h1 := Nat.testBit_two_pow_add_eq (n - 2 ^ 63) 63
      rw [show 2 ^ 63 + (n - 2 ^ 63) = n by omega] at h1
      rw [h1, Nat.testBit_lt_two_pow (by omega)]; simp [h]
  refine Nat.eq_of_testBit_eq fun j => ?_
  rw [Nat.testBit_and, Nat.testBit_two_pow]
  by_cases hj : 63 = j
  · subst hj
    by_cases h : n < 2 ^ 63
    · rw [h63]; simp [h]
    · rw [h63, if_neg h, Nat.testBit_two_pow]; simp [h]
  · by_cases h : n < 2 ^ 63
    · rw [if_pos h]; simp [hj]
    · rw [if_neg h, Nat.testBit_two_pow]; simp [hj]
theorem or_byte (n c : Nat) (hc : c < 256) : (n * 256) ||| c = 256 * n + c := by
  have := Nat.two_pow_add_eq_or_of_lt (i := 8) (b := c) (by omega) n
  rw [show (2 : Nat) ^ 8 = 256 by decide] at this
  rw [Nat.mul_comm n, ← this]
/-- One round of number: n<<8 | c. -/
theorem or8 (n : Nat) (c : Int) (hn : n < 72057594037927936) (h0 : 0 ≤ c) (h1 : c < 256) :
    bits BinOp.or IntKind.u64 (IntKind.u64.wrap ((n : Int) * 256)) (IntKind.u64.wrap c) = ((256 * n + c.toNat : Nat) : Int) := by
  obtain ⟨c, rfl⟩ := Int.eq_ofNat_of_zero_le h0
  rw [IntWalk.u64_in _ (by omega), IntWalk.u64_in _ (by omega), show ((n : Int) * 256) = ((n * 256 : Nat) : Int) by omega, bits_or_u64_nat _ _ (by omega) (by omega), or_byte n c (by omega)]
  simp

/-! ### numbers that are no numbers -/
theorem order_self (b : Nat) : FloatKind.f64.format.order b b = if b % top63 ≤ infB then some .eq else none := by
  have hs : Ieee.double.signWeight = 9223372036854775808 := by decide
  have hi : Ieee.double.infRung = 9218868437227405312 := by decide
  have hb : Ieee.double.binade = 4503599627370496 := by decide
  show Ieee.Datum.order (Ieee.double.read b) (Ieee.double.read b) = _
  unfold Ieee.Format.read top63 infB
  simp only [hs, hi, hb]
  split
  · rw [if_pos (by omega)]; simp [Ieee.Datum.order]
  · split
    · rw [if_pos (by omega)]; simp [Ieee.Datum.order]
    · split
      · rw [if_pos (by omega)]; simp [Ieee.Datum.order]
      · rw [if_neg (by omega)]; simp [Ieee.Datum.order]
theorem cleanB_eq (b : Nat) : (cleanB b = b) ↔ (b % top63 ≤ infB ∨ b = nanB) := by
  unfold cleanB
  split
  · constructor
    · intro h; exact .inr h.symm
    · rintro (h | h)
      · omega
      · exact h.symm
  · exact ⟨fun _ => .inl (by omega), fun _ => rfl⟩
theorem unrankB_lt (n : Nat) (h : n < 18446744073709551616) : unrankB n < 18446744073709551616 := by unfold unrankB top63; split <;> omega
end Go.Proofs.YtplfmpcoojkjlaaDoor
