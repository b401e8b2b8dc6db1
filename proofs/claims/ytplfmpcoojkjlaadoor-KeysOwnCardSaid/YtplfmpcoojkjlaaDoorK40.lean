/- The code of a row; codes sort as rows do; what is read is the one code of what it is read as. No program here. -/
import Derived.Test.YtplfmpcoojkjlaaDoorK22
namespace Go.Proofs.YtplfmpcoojkjlaaDoor
open Go.RowKit
/-! ### numbers in k bytes, the highest first -/
def be : Nat → Nat → List Int
  | 0, _ => []
  | k + 1, n => ((n / 256 ^ k % 256 : Nat) : Int) :: be k n
theorem be_length : ∀ (k n : Nat), (be k n).length = k
  | 0, _ => rfl
  | k + 1, n => by simp [be, be_length k n]
theorem be_byt : ∀ (k n : Nat), Byt (be k n)
  | 0, _ => fun x hx => by cases hx
  | k + 1, n => fun x hx => by
    rcases List.mem_cons.1 hx with rfl | hx
    · have := Nat.mod_lt (n / 256 ^ k) (show 0 < 256 by decide)
      omega
    · exact be_byt k n x hx
theorem be_mod (k j : Nat) (h : k ≤ j) (n : Nat) : be k (n % 256 ^ j) = be k n := by
  induction k with
  | zero => rfl
  | succ k ih =>
    have e : n % 256 ^ j / 256 ^ k % 256 = n / 256 ^ k % 256 := by
      rw [show 256 ^ j = 256 ^ k * 256 ^ (j - k) from by rw [← Nat.pow_add]; congr 1; omega, Nat.mod_mul_right_div_self]
      exact Nat.mod_mod_of_dvd _ ⟨256 ^ (j - k - 1), by rw [← Nat.pow_succ']; congr 1; omega⟩
    simp only [be, ih (by omega), e]
theorem cmpX_be : ∀ (k a b : Nat) (xs ys : List Int), a < 256 ^ k → b < 256 ^ k → cmpX (be k a ++ xs) (be k b ++ ys) = if a = b then cmpX xs ys else sgn a b
  | 0, a, b, xs, ys, ha, hb => by
    obtain rfl : a = 0 := by simpa using ha
    obtain rfl : b = 0 := by simpa using hb
    rfl
  | k + 1, a, b, xs, ys, ha, hb => by
    have hp : 0 < 256 ^ k := Nat.pow_pos (by decide)
    have da := Nat.div_add_mod a (256 ^ k)
    have db := Nat.div_add_mod b (256 ^ k)
    have ma := Nat.mod_lt a hp
    have mb := Nat.mod_lt b hp
    have qa : a / 256 ^ k < 256 := (Nat.div_lt_iff_lt_mul hp).2 (by rw [Nat.pow_succ] at ha; omega)
    have qb : b / 256 ^ k < 256 := (Nat.div_lt_iff_lt_mul hp).2 (by rw [Nat.pow_succ] at hb; omega)
    have ih := cmpX_be k (a % 256 ^ k) (b % 256 ^ k) xs ys ma mb
    rw [be_mod k k (Nat.le_refl _), be_mod k k (Nat.le_refl _)] at ih
    simp only [be, List.cons_append, cmpX, Nat.mod_eq_of_lt qa, Nat.mod_eq_of_lt qb, ih]
    have hlt : a / 256 ^ k < b / 256 ^ k → a < b := fun h => by
      have : 256 ^ k * (a / 256 ^ k + 1) ≤ 256 ^ k * (b / 256 ^ k) := Nat.mul_le_mul_left _ h
      rw [Nat.mul_add] at this
      omega
    have hgt : b / 256 ^ k < a / 256 ^ k → b < a := fun h => by
      have : 256 ^ k * (b / 256 ^ k + 1) ≤ 256 ^ k * (a / 256 ^ k) := Nat.mul_le_mul_left _ h
      rw [Nat.mul_add] at this
      omega
    by_cases hq : a / 256 ^ k = b / 256 ^ k
    · rw [if_pos (by rw [hq])]
      rw [hq] at da
      generalize 256 ^ k * (b / 256 ^ k) = T at *
      by_cases hm : a % 256 ^ k = b % 256 ^ k
      · rw [if_pos hm, if_pos (by omega)]
      · rw [if_neg hm, if_neg (by omega)]
        unfold sgn
        split <;> split <;> (try split) <;> (try split) <;> omega
    · rw [if_neg (by omega), if_neg (fun e => hq (by rw [e]))]
      unfold sgn
      split <;> split <;> (try split) <;> (try split) <;> omega
theorem be8_from (k : Nat) : ∀ (m n : Nat), (be k n).foldl (fun n c => 256 * n + c.toNat) m = m * 256 ^ k + n % 256 ^ k := by
  induction k with
  | zero => intro m n; simp [be, Nat.mod_one]
  | succ k ih =>
    intro m n
    simp only [be, List.foldl_cons, Int.toNat_natCast, ih]
    have h1 : n % 256 ^ (k + 1) = 256 ^ k * (n / 256 ^ k % 256) + n % 256 ^ k := by
      rw [Nat.pow_succ, Nat.mod_mul]
      omega
    rw [h1, Nat.pow_succ, Nat.add_mul, Nat.mul_comm 256 m, Nat.mul_assoc, Nat.mul_comm 256 (256 ^ k), Nat.mul_comm (n / 256 ^ k % 256)]
    omega
theorem be8_be (n : Nat) (h : n < 18446744073709551616) : be8 (be 8 n) = n := by
  unfold be8
  rw [be8_from, show (256 : Nat) ^ 8 = 18446744073709551616 by decide, Nat.mod_eq_of_lt h]
  omega
theorem be_from : ∀ (xs : List Int) (m : Nat), Byt xs → be xs.length (xs.foldl (fun n c => 256 * n + c.toNat) m) = xs
  | [], _, _ => rfl
  | c :: xs, m, h => by
    have ih := be_from xs (256 * m + c.toNat) h.cons.2
    have hc := h.cons.1
    have e : ∀ (ys : List Int) (j : Nat), Byt ys → (ys.foldl (fun n c => 256 * n + c.toNat) j) / 256 ^ ys.length = j := by
      intro ys
      induction ys with
      | nil => intro j _; simp
      | cons d ys ih2 =>
        intro j hy
        have hd := hy.cons.1
        rw [List.foldl_cons, List.length_cons, Nat.pow_succ, ← Nat.div_div_eq_div_mul, ih2 _ hy.cons.2]
        omega
    simp only [List.length_cons, List.foldl_cons, be, ih, e xs _ h.cons.2]
    congr 1
    omega
theorem be_be8 (xs : List Int) (h : Byt xs) (hl : xs.length = 8) : be 8 (be8 xs) = xs := by
  have := be_from xs 0 h
  rwa [hl] at this
/-! ### texts -/
theorem cmpX_cons_ne {x y : Int} (h : x ≠ y) (xs ys : List Int) : cmpX (x :: xs) (y :: ys) = sgn x y := by simp [cmpX, h]
theorem cmpX_cons_eq (x : Int) (xs ys : List Int) : cmpX (x :: xs) (x :: ys) = cmpX xs ys := by simp [cmpX]
theorem sgn_ne {a b : Int} (h : a ≠ b) : sgn a b ≠ 0 := fun e => h ((sgn_zero _ _).1 e)
def esc : List Int → List Int
  | [] => []
  | c :: r => if c = 0 then 0 :: 255 :: esc r else c :: esc r
/-- What follows begins with no 255. -/
def Low (xs : List Int) : Prop := ∀ x r, xs = x :: r → x < 255
theorem Low.nil : Low [] := fun x r h => by cases h
theorem Low.cons {x : Int} {xs : List Int} (h : x < 255) : Low (x :: xs) := fun y r e => by cases e; exact h
theorem cmpX_esc : ∀ (s t xs ys : List Int), Byt s → Byt t → Low xs → Low ys → cmpX (esc s ++ 0 :: xs) (esc t ++ 0 :: ys) = if cmpX s t = 0 then cmpX xs ys else cmpX s t
  | [], [], xs, ys, _, _, _, _ => by simp [esc, cmpX]
  | [], d :: t, xs, ys, _, ht, hx, _ => by
    have hd := ht.cons.1
    simp only [esc, List.nil_append, cmpX]
    by_cases h : d = 0
    · subst h
      simp only [if_true, List.cons_append, cmpX]
      cases xs with
      | nil => simp [cmpX]
      | cons x r =>
        have := hx x r rfl
        simp only [cmpX]
        rw [if_neg (by omega)]
        simp [sgn, this]
    · simp only [if_neg h, List.cons_append, cmpX]
      rw [if_neg (by omega)]
      simp [sgn, show 0 < d by omega]
  | c :: s, [], xs, ys, hs, _, _, hy => by
    have hd := hs.cons.1
    simp only [esc, List.nil_append, cmpX]
    by_cases h : c = 0
    · subst h
      simp only [if_true, List.cons_append, cmpX]
      cases ys with
      | nil => simp [cmpX]
      | cons x r =>
        have := hy x r rfl
        simp only [cmpX]
        rw [if_neg (by omega)]
        simp [sgn, this, show ¬ (255 : Int) < x by omega]
    · simp only [if_neg h, List.cons_append, cmpX]
      simp [sgn, show 0 < c by omega, show ¬ c < 0 by omega]
  | c :: s, d :: t, xs, ys, hs, ht, hx, hy => by
    have ih := cmpX_esc s t xs ys hs.cons.2 ht.cons.2 hx hy
    have hc := hs.cons.1
    have hd := ht.cons.1
    by_cases h0 : c = 0
    · by_cases h1 : d = 0
      · subst h0 h1
        rw [show esc (0 :: s) = 0 :: 255 :: esc s from rfl, show esc (0 :: t) = 0 :: 255 :: esc t from rfl]
        simp only [List.cons_append]
        rw [cmpX_cons_eq 0 s t, cmpX_cons_eq, cmpX_cons_eq, ih]
      · subst h0
        rw [show esc (0 :: s) = 0 :: 255 :: esc s from rfl, show esc (d :: t) = d :: esc t from if_neg h1]
        simp only [List.cons_append]
        rw [cmpX_cons_ne (Ne.symm h1), cmpX_cons_ne (Ne.symm h1), if_neg (sgn_ne (Ne.symm h1))]
    · by_cases h1 : d = 0
      · subst h1
        rw [show esc (0 :: t) = 0 :: 255 :: esc t from rfl, show esc (c :: s) = c :: esc s from if_neg h0]
        simp only [List.cons_append]
        rw [cmpX_cons_ne h0, cmpX_cons_ne h0, if_neg (sgn_ne h0)]
      · rw [show esc (d :: t) = d :: esc t from if_neg h1, show esc (c :: s) = c :: esc s from if_neg h0]
        simp only [List.cons_append]
        by_cases h2 : c = d
        · subst h2
          rw [cmpX_cons_eq c s t, cmpX_cons_eq, ih]
        · rw [cmpX_cons_ne h2, cmpX_cons_ne h2, if_neg (sgn_ne h2)]
theorem esc_byt : ∀ (s : List Int), Byt s → Byt (esc s)
  | [], h => h
  | c :: r, h => by
    have ih := esc_byt r h.cons.2
    unfold esc
    split
    · exact fun x hx => by
        rcases List.mem_cons.1 hx with rfl | hx
        · omega
        · rcases List.mem_cons.1 hx with rfl | hx
          · omega
          · exact ih x hx
    · exact fun x hx => by
        rcases List.mem_cons.1 hx with rfl | hx
        · exact h.cons.1
        · exact ih x hx
/-! ### codes -/
mutual
def codT : TT PS → List Int
  | .mk s t ps => s.kind :: (if s.kind = 2 then [b2i s.b] else if s.kind = 3 then be 8 (s.n + 9223372036854775808).toNat else if s.kind = 4 then be 8 (rankB s.re)
      else if s.kind = 5 then be 8 (rankB s.re) ++ be 8 (rankB s.im) else if s.kind = 6 then esc t ++ [0] else if s.kind = 7 then codL ps ++ [0] else [])
def codL : List (TT PS) → List Int
  | [] => []
  | p :: ps => codT p ++ codL ps
end
/-- A payload that fits into the memory's words. -/
def PS.fits (s : PS) (t : List Int) : Prop := s.fit t ∧ -9223372036854775808 ≤ s.n ∧ s.n ≤ 9223372036854775807
mutual
theorem TT.all_mono {σ : Type} {P Q : σ → List Int → Prop} (hpq : ∀ s t, P s t → Q s t) : ∀ (p : TT σ), p.all P → p.all Q
  | .mk s t ps, h => ⟨hpq s t h.1, TT.alls_mono hpq ps h.2⟩
theorem TT.alls_mono {σ : Type} {P Q : σ → List Int → Prop} (hpq : ∀ s t, P s t → Q s t) : ∀ (ps : List (TT σ)), TT.alls P ps → TT.alls Q ps
  | [], _ => trivial
  | p :: ps, h => ⟨TT.all_mono hpq p h.1, TT.alls_mono hpq ps h.2⟩
end
theorem cleanB_lt (b : Nat) (h : b < 18446744073709551616) : cleanB b < 18446744073709551616 := by unfold cleanB nanB; split <;> omega
theorem rankB_lt (b : Nat) (h : b < 18446744073709551616) : rankB b < 18446744073709551616 := by
  have := cleanB_lt b h
  unfold rankB top63
  split <;> omega
theorem cleanB_idem (b : Nat) : cleanB (cleanB b) = cleanB b := by
  rw [cleanB_eq]
  unfold cleanB
  split
  · exact .inr rfl
  · exact .inl (by omega)
theorem rankB_clean (b : Nat) : rankB (cleanB b) = rankB b := by unfold rankB; rw [cleanB_idem]
theorem flt_ok {s : PS} {t : List Int} {ps : List (TT PS)} {deep : Nat} (h : (TT.mk s t ps).flt PS.kind deep = 0) : 1 ≤ s.kind ∧ s.kind ≤ 7 ∧ (s.kind = 7 → deep ≠ 16 ∧ TT.flts PS.kind ps (deep + 1) = 0) := by
  simp only [TT.flt] at h
  split at h
  · cases h
  · rename_i h1
    refine ⟨by omega, by omega, fun h7 => ?_⟩
    rw [if_pos h7] at h
    split at h
    · cases h
    · rename_i h2
      exact ⟨h2, h⟩
theorem flts_cons {p : TT PS} {ps : List (TT PS)} {deep : Nat} (h : TT.flts PS.kind (p :: ps) deep = 0) : p.flt PS.kind deep = 0 ∧ TT.flts PS.kind ps deep = 0 := by
  simp only [TT.flts] at h
  split at h
  · rename_i h1
    exact ⟨h1, h⟩
  · rename_i h1
    exact absurd h h1
theorem codL_low : ∀ (ps : List (TT PS)) (deep : Nat) (xs : List Int), TT.flts PS.kind ps deep = 0 → Low xs → Low (codL ps ++ xs)
  | [], _, xs, _, hx => hx
  | .mk s t ps :: qs, deep, xs, h, _ => by
    have := flt_ok (flts_cons h).1
    simp only [codL, codT, List.cons_append]
    exact Low.cons (by omega)
theorem nat_sgn (a b : Nat) : (if a = b then (0 : Int) else sgn a b) = sgn a b := by
  split
  · rename_i h; subst h; simp [sgn]
  · rfl
theorem if_sgn {α : Type} (a b : Nat) (x : α) (f : Int → α) : (if a = b then x else f (sgn a b)) = if sgn (a : Int) b = 0 then x else f (sgn a b) := by
  by_cases h : a = b
  · subst h; simp [sgn]
  · rw [if_neg h, if_neg (sgn_ne (by omega))]
mutual
theorem cmp_codT : ∀ (p q : TT PS) (d1 d2 : Nat) (xs ys : List Int), p.flt PS.kind d1 = 0 → q.flt PS.kind d2 = 0 → p.all PS.fits → q.all PS.fits → Low xs → Low ys →
    cmpX (codT p ++ xs) (codT q ++ ys) = if cmpT p q = 0 then cmpX xs ys else cmpT p q
  | .mk s t ps, .mk s2 t2 ps2, d1, d2, xs, ys, hp, hq, fp, fq, hx, hy => by
    have kp := flt_ok hp
    have kq := flt_ok hq
    simp only [TT.all, PS.fits, PS.fit] at fp fq
    have f1 := fp.1.1.1
    have f2 := fp.1.1.2.1
    have f3 := fp.1.1.2.2
    have g1 := fq.1.1.1
    have g2 := fq.1.1.2.1
    have g3 := fq.1.1.2.2
    have e256 : (256 : Nat) ^ 8 = 18446744073709551616 := by decide
    by_cases hk : s.kind = s2.kind
    case neg =>
      simp only [codT, cmpT, TT.s, List.cons_append, ne_eq, hk, not_false_eq_true, if_true]
      rw [cmpX_cons_ne hk, if_neg (sgn_ne hk)]
    simp only [codT, cmpT, TT.s, TT.text, TT.parts, List.cons_append, hk, ne_eq, not_true_eq_false, if_false, cmpX_cons_eq]
    rw [hk] at kp
    generalize s2.kind = kd at *
    by_cases h2 : kd = 2
    · simp only [h2, if_true]
      cases s.b <;> cases s2.b <;> simp [b2i, cmpX, sgn]
    simp only [h2, if_false]
    by_cases h3 : kd = 3
    · simp only [h3, if_true]
      rw [cmpX_be 8 _ _ _ _ (by omega) (by omega)]
      by_cases hn : s.n = s2.n
      · rw [if_pos (by rw [hn]), if_pos ((sgn_zero _ _).2 hn)]
      · rw [if_neg (by omega), if_neg (sgn_ne hn)]
        unfold sgn
        split <;> split <;> (try split) <;> (try split) <;> omega
    simp only [h3, if_false]
    by_cases h4 : kd = 4
    · simp only [h4, if_true]
      rw [cmpX_be 8 _ _ _ _ (by rw [e256]; exact rankB_lt _ f1) (by rw [e256]; exact rankB_lt _ g1)]
      exact if_sgn _ _ _ (fun x => x)
    simp only [h4, if_false]
    by_cases h5 : kd = 5
    · simp only [h5, if_true, List.append_assoc]
      rw [cmpX_be 8 _ _ _ _ (by rw [e256]; exact rankB_lt _ f1) (by rw [e256]; exact rankB_lt _ g1), cmpX_be 8 _ _ _ _ (by rw [e256]; exact rankB_lt _ f2) (by rw [e256]; exact rankB_lt _ g2)]
      rw [if_sgn _ _ _ (fun x => x), if_sgn _ _ _ (fun x => x)]
      by_cases hz : sgn (rankB s.re : Int) (rankB s2.re) = 0
      · simp only [hz, if_true]
      · simp only [hz, if_false]
    simp only [h5, if_false]
    by_cases h6 : kd = 6
    · simp only [h6, if_true, List.append_assoc, List.cons_append, List.nil_append]
      exact cmpX_esc t t2 xs ys f3 g3 hx hy
    simp only [h6, if_false]
    by_cases h7 : kd = 7
    · simp only [h7, if_true, List.append_assoc, List.cons_append, List.nil_append]
      exact cmp_codL0 ps ps2 _ _ xs ys (kp.2.2 h7).2 (kq.2.2 h7).2 fp.2 fq.2
    simp only [h7, if_false, List.nil_append, if_true]
theorem cmp_codL0 : ∀ (ps qs : List (TT PS)) (d1 d2 : Nat) (xs ys : List Int), TT.flts PS.kind ps d1 = 0 → TT.flts PS.kind qs d2 = 0 → TT.alls PS.fits ps → TT.alls PS.fits qs →
    cmpX (codL ps ++ 0 :: xs) (codL qs ++ 0 :: ys) = if cmpL ps qs = 0 then cmpX xs ys else cmpL ps qs
  | [], [], _, _, xs, ys, _, _, _, _ => by simp [codL, cmpL, cmpX]
  | [], .mk s t ps :: qs, _, d2, xs, ys, _, hq, _, _ => by
    have kq := flt_ok (flts_cons hq).1
    simp only [codL, codT, cmpL, List.nil_append, List.cons_append]
    rw [cmpX_cons_ne (by omega)]
    simp [sgn, show 0 < s.kind by omega]
  | .mk s t ps :: qs, [], d1, _, xs, ys, hp, _, _, _ => by
    have kq := flt_ok (flts_cons hp).1
    simp only [codL, codT, cmpL, List.nil_append, List.cons_append]
    rw [cmpX_cons_ne (by omega)]
    simp [sgn, show 0 < s.kind by omega, show ¬ s.kind < 0 by omega]
  | p :: ps, q :: qs, d1, d2, xs, ys, hp, hq, fp, fq => by
    have ih1 := cmp_codT p q d1 d2 (codL ps ++ 0 :: xs) (codL qs ++ 0 :: ys) (flts_cons hp).1 (flts_cons hq).1 fp.1 fq.1 (codL_low ps d1 _ (flts_cons hp).2 (Low.cons (by decide))) (codL_low qs d2 _ (flts_cons hq).2 (Low.cons (by decide)))
    have ih2 := cmp_codL0 ps qs d1 d2 xs ys (flts_cons hp).2 (flts_cons hq).2 fp.2 fq.2
    simp only [codL, cmpL, List.append_assoc]
    rw [ih1, ih2]
    by_cases h : cmpT p q = 0
    · simp only [h, if_true]
    · simp only [h, if_false]
end
/-- Codes, held against each other, stand as rows do. -/
theorem cmp_codL : ∀ (ps qs : List (TT PS)) (d1 d2 : Nat), TT.flts PS.kind ps d1 = 0 → TT.flts PS.kind qs d2 = 0 → TT.alls PS.fits ps → TT.alls PS.fits qs → cmpX (codL ps) (codL qs) = cmpL ps qs
  | [], [], _, _, _, _, _, _ => rfl
  | [], .mk s t ps :: qs, _, _, _, _, _, _ => by simp only [codL, codT, cmpL, List.cons_append, cmpX]
  | .mk s t ps :: qs, [], _, _, _, _, _, _ => by simp only [codL, codT, cmpL, List.cons_append, cmpX]
  | p :: ps, q :: qs, d1, d2, hp, hq, fp, fq => by
    have h1 := codL_low ps d1 [] (flts_cons hp).2 Low.nil
    have h2 := codL_low qs d2 [] (flts_cons hq).2 Low.nil
    rw [List.append_nil] at h1 h2
    have ih1 := cmp_codT p q d1 d2 (codL ps) (codL qs) (flts_cons hp).1 (flts_cons hq).1 fp.1 fq.1 h1 h2
    have ih2 := cmp_codL ps qs d1 d2 (flts_cons hp).2 (flts_cons hq).2 fp.2 fq.2
    simp only [codL, cmpL]
    rw [ih1, ih2]
/-! ### an order -/
theorem cmpX_self : ∀ (xs : List Int), cmpX xs xs = 0
  | [] => rfl
  | x :: xs => by rw [cmpX_cons_eq, cmpX_self xs]
theorem cmpX_eq : ∀ (xs ys : List Int), cmpX xs ys = 0 → xs = ys
  | [], [], _ => rfl
  | [], _ :: _, h => by simp [cmpX] at h
  | _ :: _, [], h => by simp [cmpX] at h
  | x :: xs, y :: ys, h => by
    by_cases e : x = y
    · subst e
      rw [cmpX_cons_eq] at h
      rw [cmpX_eq xs ys h]
    · rw [cmpX_cons_ne e] at h
      exact absurd h (sgn_ne e)
theorem sgn_neg (a b : Int) : sgn b a = - sgn a b := by unfold sgn; split <;> split <;> (try split) <;> omega
theorem sgn_bd (a b : Int) : -1 ≤ sgn a b ∧ sgn a b ≤ 1 := by unfold sgn; split <;> (try split) <;> omega
theorem cmpX_neg : ∀ (xs ys : List Int), cmpX ys xs = - cmpX xs ys
  | [], [] => rfl
  | [], _ :: _ => rfl
  | _ :: _, [] => rfl
  | x :: xs, y :: ys => by
    by_cases e : x = y
    · subst e
      rw [cmpX_cons_eq, cmpX_cons_eq, cmpX_neg xs ys]
    · rw [cmpX_cons_ne e, cmpX_cons_ne (Ne.symm e), sgn_neg]
theorem cmpX_bd : ∀ (xs ys : List Int), -1 ≤ cmpX xs ys ∧ cmpX xs ys ≤ 1
  | [], [] => by simp [cmpX]
  | [], _ :: _ => by simp [cmpX]
  | _ :: _, [] => by simp [cmpX]
  | x :: xs, y :: ys => by
    by_cases e : x = y
    · subst e
      rw [cmpX_cons_eq]
      exact cmpX_bd xs ys
    · rw [cmpX_cons_ne e]
      exact sgn_bd x y
theorem cmpX_le : ∀ (xs ys zs : List Int), cmpX xs ys ≤ 0 → cmpX ys zs ≤ 0 → cmpX xs zs ≤ 0
  | [], _, [], _, _ => by simp [cmpX]
  | [], _, _ :: _, _, _ => by simp [cmpX]
  | x :: xs, [], _, h, _ => by simp [cmpX] at h
  | x :: xs, y :: ys, [], _, h => by simp [cmpX] at h
  | x :: xs, y :: ys, z :: zs, h1, h2 => by
    by_cases e1 : x = y
    · subst e1
      rw [cmpX_cons_eq] at h1
      by_cases e2 : x = z
      · subst e2
        rw [cmpX_cons_eq] at h2 ⊢
        exact cmpX_le xs ys zs h1 h2
      · rw [cmpX_cons_ne e2] at h2 ⊢
        exact h2
    · rw [cmpX_cons_ne e1] at h1
      by_cases e2 : y = z
      · subst e2
        rw [cmpX_cons_ne e1]
        exact h1
      · rw [cmpX_cons_ne e2] at h2
        have a1 : x < y := by
          unfold sgn at h1
          split at h1
          · assumption
          · split at h1 <;> omega
        have a2 : y < z := by
          unfold sgn at h2
          split at h2
          · assumption
          · split at h2 <;> omega
        rw [cmpX_cons_ne (by omega)]
        simp [sgn, show x < z by omega]
end Go.Proofs.YtplfmpcoojkjlaaDoor
