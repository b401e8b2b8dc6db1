/- What is coded is read back; what is read is the one code of what it is read as; beginnings of codes; spans. No program here. -/
import Derived.Test.YtplfmpcoojkjlaaDoorK41
namespace Go.Proofs.YtplfmpcoojkjlaaDoor
open Go.RowKit
def PS.cln (s : PS) : PS := ⟨s.kind, if s.kind = 2 then s.b else false, if s.kind = 3 then s.n else 0, if s.kind = 4 ∨ s.kind = 5 then cleanB s.re else 0, if s.kind = 5 then cleanB s.im else 0⟩
mutual
def clnT : TT PS → TT PS
  | .mk s t ps => .mk s.cln (if s.kind = 6 then t else []) (if s.kind = 7 then clnL ps else [])
def clnL : List (TT PS) → List (TT PS)
  | [] => []
  | p :: ps => clnT p :: clnL ps
end
theorem clnL_length : ∀ (ps : List (TT PS)), (clnL ps).length = ps.length
  | [] => rfl
  | p :: ps => by simp [clnL, clnL_length ps]
theorem unrank_rank (b : Nat) (h : b < 18446744073709551616) : unrankB (rankB b) = cleanB b := by
  have := cleanB_lt b h
  unfold rankB
  generalize cleanB b = c at *
  unfold unrankB top63
  split <;> split <;> omega
theorem rank_unrank (n : Nat) (h : n < 18446744073709551616) (hc : cleanB (unrankB n) = unrankB n) : rankB (unrankB n) = n := by
  unfold rankB
  rw [hc]
  unfold unrankB top63
  split <;> split <;> omega
theorem textS_esc : ∀ (t y : List Int), Low y → textS (esc t ++ 0 :: y) = some (t, y)
  | [], [], _ => by simp [esc, textS]
  | [], d :: y, h => by
    have := h d y rfl
    simp [esc, textS, show d ≠ 255 by omega]
  | c :: t, y, h => by
    have ih := textS_esc t y h
    by_cases hc : c = 0
    · subst hc
      simp [esc, textS, ih]
    · rw [show esc (c :: t) = c :: esc t from if_neg hc, List.cons_append]
      unfold textS
      rw [if_neg hc, ih]
      rfl
theorem codT_pos (p : TT PS) : 1 ≤ (codT p).length := by cases p; simp [codT]
theorem codL_cons_ne (p : TT PS) (ps : List (TT PS)) : codL (p :: ps) ≠ [] := fun h => by
  have := codT_pos p
  have h2 := congrArg List.length h
  simp [codL] at h2
  have := h2.1
  cases p
  simp [codT] at this
theorem take8 (n : Nat) (y : List Int) : (be 8 n ++ y).take 8 = be 8 n := List.take_left' (be_length 8 n)
theorem drop8 (n : Nat) (y : List Int) : (be 8 n ++ y).drop 8 = y := List.drop_left' (be_length 8 n)
mutual
theorem take_cod : ∀ (p : TT PS) (f deep : Nat) (y : List Int), p.flt PS.kind deep = 0 → p.all PS.fits → Low y → 2 * (codT p).length ≤ f → takeS f (codT p ++ y) deep = .ok (clnT p, y)
  | .mk s t ps, f, deep, y, hf, hp, hy, hn => by
    have kp := flt_ok hf
    have fp := hp
    simp only [TT.all, PS.fits, PS.fit] at fp
    have hpos := codT_pos (.mk s t ps)
    obtain ⟨f, rfl⟩ : ∃ m, f = m + 1 := ⟨f - 1, by omega⟩
    obtain ⟨kd, b, n, re, im⟩ := s
    dsimp only at kp fp
    simp only [codT, List.cons_append]
    unfold takeS
    by_cases h1 : kd = 1
    · subst h1
      simp [clnT, PS.cln, PS.of]
    rw [if_neg h1]
    by_cases h2 : kd = 2
    · subst h2
      cases b <;> simp [b2i, clnT, PS.cln]
    rw [if_neg h2]
    by_cases h3 : kd = 3
    · subst h3
      simp only [if_neg (show ¬ (3 : Int) = 2 by decide), if_true]
      rw [if_neg (by rw [List.length_append, be_length]; omega), take8, drop8, be8_be _ (by omega)]
      simp [clnT, PS.cln, top63]
      omega
    rw [if_neg h3]
    by_cases h4 : kd = 4
    · subst h4
      simp only [if_neg (show ¬ (4 : Int) = 2 by decide), if_neg (show ¬ (4 : Int) = 3 by decide), if_true]
      rw [if_neg (by rw [List.length_append, be_length]; omega), take8, drop8, be8_be _ (rankB_lt _ fp.1.1.1), unrank_rank _ fp.1.1.1, if_pos (cleanB_idem _)]
      simp [clnT, PS.cln]
    rw [if_neg h4]
    by_cases h5 : kd = 5
    · subst h5
      simp only [if_neg (show ¬ (5 : Int) = 2 by decide), if_neg (show ¬ (5 : Int) = 3 by decide), if_neg (show ¬ (5 : Int) = 4 by decide), if_true, List.append_assoc]
      rw [if_neg (by rw [List.length_append, List.length_append, be_length, be_length]; omega), take8, drop8, take8, be8_be _ (rankB_lt _ fp.1.1.1), unrank_rank _ fp.1.1.1, be8_be _ (rankB_lt _ fp.1.1.2.1), unrank_rank _ fp.1.1.2.1, if_pos ⟨cleanB_idem _, cleanB_idem _⟩]
      rw [show (16 : Nat) = 8 + 8 from rfl, ← List.drop_drop, drop8, drop8]
      simp [clnT, PS.cln]
    rw [if_neg h5]
    by_cases h6 : kd = 6
    · subst h6
      simp only [if_neg (show ¬ (6 : Int) = 2 by decide), if_neg (show ¬ (6 : Int) = 3 by decide), if_neg (show ¬ (6 : Int) = 4 by decide), if_neg (show ¬ (6 : Int) = 5 by decide), if_true, List.append_assoc, List.cons_append, List.nil_append]
      rw [textS_esc t y hy]
      simp [clnT, PS.cln, PS.of]
    rw [if_neg h6]
    have h7 : kd = 7 := by omega
    subst h7
    have k7 := kp.2.2 rfl
    have hl : (codT (.mk ⟨7, b, n, re, im⟩ t ps)).length = (codL ps).length + 2 := by simp [codT]
    simp only [if_neg (show ¬ (7 : Int) = 2 by decide), if_neg (show ¬ (7 : Int) = 3 by decide), if_neg (show ¬ (7 : Int) = 4 by decide), if_neg (show ¬ (7 : Int) = 5 by decide), if_neg (show ¬ (7 : Int) = 6 by decide), if_true, List.append_assoc, List.cons_append, List.nil_append]
    rw [if_neg k7.1, tup_cod ps f (deep + 1) y k7.2 hp.2 (by omega)]
    simp [clnT, PS.cln, PS.of]
theorem tup_cod : ∀ (ps : List (TT PS)) (f deep : Nat) (y : List Int), TT.flts PS.kind ps deep = 0 → TT.alls PS.fits ps → 2 * (codL ps).length + 1 ≤ f → tupS f (codL ps ++ 0 :: y) deep = .ok (clnL ps, y)
  | [], f, deep, y, _, _, hn => by
    obtain ⟨f, rfl⟩ : ∃ m, f = m + 1 := ⟨f - 1, by omega⟩
    simp [codL, tupS, clnL]
  | p :: ps, f, deep, y, hf, hp, hn => by
    have hfc := flts_cons hf
    have hpos := codT_pos p
    have hl : (codL (p :: ps)).length = (codT p).length + (codL ps).length := by simp [codL]
    obtain ⟨f, rfl⟩ : ∃ m, f = m + 1 := ⟨f - 1, by omega⟩
    have ih1 := take_cod p f deep (codL ps ++ 0 :: y) hfc.1 hp.1 (codL_low ps deep _ hfc.2 (Low.cons (by decide))) (by omega)
    have ih2 := tup_cod ps f deep y hfc.2 hp.2 (by omega)
    have hk : ∃ k q, codT p = k :: q ∧ k ≠ 0 := by
      obtain ⟨s, t, qs⟩ := p
      exact ⟨s.kind, _, rfl, by have := flt_ok hfc.1; omega⟩
    obtain ⟨k, q, hk, hk0⟩ := hk
    simp only [codL, List.append_assoc]
    rw [hk] at ih1 ⊢
    simp only [List.cons_append] at ih1 ⊢
    unfold tupS
    rw [if_neg hk0, ih1]
    simp only [ih2, clnL]
end
theorem dec_cod : ∀ (ps : List (TT PS)) (f : Nat), TT.flts PS.kind ps 0 = 0 → TT.alls PS.fits ps → 2 * (codL ps).length + 1 ≤ f → decS f (codL ps) = .ok (clnL ps)
  | [], f, _, _, hn => by
    obtain ⟨f, rfl⟩ : ∃ m, f = m + 1 := ⟨f - 1, by omega⟩
    simp [codL, decS, clnL]
  | p :: ps, f, hf, hp, hn => by
    have hfc := flts_cons hf
    have hpos := codT_pos p
    have hl : (codL (p :: ps)).length = (codT p).length + (codL ps).length := by simp [codL]
    obtain ⟨f, rfl⟩ : ∃ m, f = m + 1 := ⟨f - 1, by omega⟩
    have hlow := codL_low ps 0 [] hfc.2 Low.nil
    rw [List.append_nil] at hlow
    have ih1 := take_cod p f 0 (codL ps) hfc.1 hp.1 hlow (by omega)
    have ih2 := dec_cod ps f hfc.2 hp.2 (by omega)
    obtain ⟨s, t, qs⟩ := p
    simp only [codL, codT, List.cons_append] at ih1 ⊢
    unfold decS
    rw [ih1]
    simp only [ih2, clnL]
/-! ### what is read -/
theorem textS_form : ∀ (n : Nat) (q t r : List Int), q.length ≤ n → Byt q → textS q = some (t, r) → q = esc t ++ 0 :: r ∧ Byt t
  | _, [], t, r, _, _, h => by simp [textS] at h
  | 0, c :: q, t, r, hn, _, _ => absurd hn (by simp)
  | n + 1, [c], t, r, _, _, h => by
    unfold textS at h
    split at h
    · rename_i hc
      obtain ⟨rfl, rfl⟩ : [] = t ∧ [] = r := by simpa using h
      exact ⟨by rw [hc]; rfl, fun x hx => by cases hx⟩
    · simp [textS] at h
  | n + 1, c :: d :: q, t, r, hn, hb, h => by
    unfold textS at h
    split at h
    · rename_i hc
      dsimp only at h
      split at h
      · rename_i hd
        obtain ⟨⟨t', r'⟩, h1, h2⟩ := Option.map_eq_some_iff.1 h
        simp only [Prod.mk.injEq] at h2
        obtain ⟨rfl, rfl⟩ := h2
        obtain ⟨h3, h4⟩ := textS_form n q t' r' (by simp at hn; omega) hb.cons.2.cons.2 h1
        refine ⟨by rw [hc, hd, h3]; rfl, fun x hx => ?_⟩
        rcases List.mem_cons.1 hx with rfl | hx
        · omega
        · exact h4 x hx
      · obtain ⟨rfl, rfl⟩ : [] = t ∧ d :: q = r := by simpa using h
        exact ⟨by rw [hc]; rfl, fun x hx => by cases hx⟩
    · rename_i hc
      obtain ⟨⟨t', r'⟩, h1, h2⟩ := Option.map_eq_some_iff.1 h
      simp only [Prod.mk.injEq] at h2
      obtain ⟨rfl, rfl⟩ := h2
      obtain ⟨h3, h4⟩ := textS_form n (d :: q) t' r' (by simpa using hn) hb.cons.2 h1
      refine ⟨by rw [h3]; simp [esc, hc], fun x hx => ?_⟩
      rcases List.mem_cons.1 hx with rfl | hx
      · exact hb.cons.1
      · exact h4 x hx
theorem fits_of (s : PS) (h1 : s.re < 18446744073709551616) (h2 : s.im < 18446744073709551616) (h3 : -9223372036854775808 ≤ s.n ∧ s.n ≤ 9223372036854775807) {t : List Int} (ht : Byt t) : (TT.mk s t []).all PS.fits :=
  ⟨⟨⟨h1, h2, ht⟩, h3⟩, trivial⟩
theorem Byt.nil : Byt [] := fun x hx => by cases hx
theorem read_form (f : Nat) : (∀ q deep p r, Byt q → takeS f q deep = .ok (p, r) → q = codT p ++ r ∧ p.flt PS.kind deep = 0 ∧ p.all PS.fits ∧ clnT p = p) ∧ (∀ q deep ps r, Byt q → tupS f q deep = .ok (ps, r) → q = codL ps ++ 0 :: r ∧ TT.flts PS.kind ps deep = 0 ∧ TT.alls PS.fits ps ∧ clnL ps = ps) := by
  induction f with
  | zero => exact ⟨fun q deep p r _ h => by simp [takeS] at h, fun q deep ps r _ h => by simp [tupS] at h⟩
  | succ f ih =>
    obtain ⟨ih1, ih2⟩ := ih
    refine ⟨fun q deep p r hb h => ?_, fun q deep ps r hb h => ?_⟩
    · cases q with
      | nil => simp [takeS] at h
      | cons k q =>
        have hq := hb.cons.2
        unfold takeS at h
        split at h
        · rename_i hk
          cases h
          subst hk
          exact ⟨by simp [codT, PS.of], by simp [TT.flt, PS.of], fits_of _ (by simp [PS.of]) (by simp [PS.of]) (by simp [PS.of]) Byt.nil, by simp [clnT, PS.cln, PS.of]⟩
        split at h
        · rename_i hk
          split at h
          · cases h
          · rename_i b r'
            split at h
            · rename_i hlt
              cases h
              subst hk
              have h0 := hq.cons.1
              refine ⟨?_, by simp [TT.flt], fits_of _ (by simp) (by simp) (by simp) Byt.nil, by simp [clnT, PS.cln]⟩
              have : b = 0 ∨ b = 1 := by omega
              rcases this with rfl | rfl <;> simp [codT, b2i]
            · cases h
        split at h
        · rename_i hk
          split at h
          · cases h
          · rename_i hlen
            cases h
            subst hk
            have h1 := be8_bound hq (Nat.le_refl 8)
            have h2 := be_be8 (q.take 8) (hq.take 8) (by rw [List.length_take]; omega)
            refine ⟨?_, by simp [TT.flt], fits_of _ (by simp) (by simp) (by simp [top63]; omega) Byt.nil, by simp [clnT, PS.cln]⟩
            have e : ((be8 (q.take 8) : Int) - (top63 : Nat) + 9223372036854775808).toNat = be8 (q.take 8) := by unfold top63; omega
            simp only [codT, if_neg (show ¬ (3 : Int) = 2 by decide), if_true, e, h2, List.cons_append, List.take_append_drop]
        split at h
        · rename_i hk
          split at h
          · cases h
          · rename_i hlen
            split at h
            · rename_i hc
              cases h
              subst hk
              have h1 := be8_bound hq (Nat.le_refl 8)
              have h2 := be_be8 (q.take 8) (hq.take 8) (by rw [List.length_take]; omega)
              refine ⟨?_, by simp [TT.flt], fits_of _ (unrankB_lt _ h1) (by simp) (by simp) Byt.nil, by simp [clnT, PS.cln, hc]⟩
              simp only [codT, if_neg (show ¬ (4 : Int) = 2 by decide), if_neg (show ¬ (4 : Int) = 3 by decide), if_true, rank_unrank _ h1 hc, h2, List.cons_append, List.take_append_drop]
            · cases h
        split at h
        · rename_i hk
          split at h
          · cases h
          · rename_i hlen
            split at h
            · rename_i hc
              cases h
              subst hk
              have h1 := be8_bound hq (Nat.le_refl 8)
              have h2 := be_be8 (q.take 8) (hq.take 8) (by rw [List.length_take]; omega)
              have h3 := be8_bound (hq.drop 8) (Nat.le_refl 8)
              have h4 := be_be8 ((q.drop 8).take 8) ((hq.drop 8).take 8) (by rw [List.length_take, List.length_drop]; omega)
              refine ⟨?_, by simp [TT.flt], fits_of _ (unrankB_lt _ h1) (unrankB_lt _ h3) (by simp) Byt.nil, by simp [clnT, PS.cln, hc]⟩
              simp only [codT, if_neg (show ¬ (5 : Int) = 2 by decide), if_neg (show ¬ (5 : Int) = 3 by decide), if_neg (show ¬ (5 : Int) = 4 by decide), if_true, rank_unrank _ h1 hc.1, rank_unrank _ h3 hc.2, h2, h4, List.cons_append, List.append_assoc]
              rw [show q.drop 16 = (q.drop 8).drop 8 from by rw [List.drop_drop], List.take_append_drop, List.take_append_drop]
            · cases h
        split at h
        · rename_i hk
          split at h
          · cases h
          · rename_i t r' ht
            cases h
            subst hk
            obtain ⟨h1, h2⟩ := textS_form _ q _ _ (Nat.le_refl _) hq ht
            refine ⟨?_, by simp [TT.flt, PS.of], fits_of _ (by simp [PS.of]) (by simp [PS.of]) (by simp [PS.of]) h2, by simp [clnT, PS.cln, PS.of]⟩
            rw [h1]
            simp [codT, PS.of]
        split at h
        · rename_i hk
          split at h
          · cases h
          · rename_i hdeep
            split at h
            · cases h
            · rename_i ps r' ht
              cases h
              subst hk
              obtain ⟨h1, h2, h3, h4⟩ := ih2 _ _ _ _ hq ht
              refine ⟨?_, by simp [TT.flt, PS.of, hdeep, h2], ⟨⟨⟨by simp [PS.of], by simp [PS.of], Byt.nil⟩, by simp [PS.of]⟩, h3⟩, by simp [clnT, PS.cln, PS.of, h4]⟩
              rw [h1]
              simp [codT, PS.of]
        · cases h
    · cases q with
      | nil => simp [tupS] at h
      | cons k q =>
        unfold tupS at h
        split at h
        · rename_i hk
          cases h
          exact ⟨by rw [hk]; rfl, rfl, trivial, rfl⟩
        · split at h
          · cases h
          · rename_i p r1 ht
            split at h
            · cases h
            · rename_i ps' r2 ht2
              cases h
              obtain ⟨h1, h2, h3, h4⟩ := ih1 _ _ _ _ hb ht
              have hb1 : Byt r1 := fun x hx => hb x (by rw [h1]; exact List.mem_append_right _ hx)
              obtain ⟨g1, g2, g3, g4⟩ := ih2 _ _ _ _ hb1 ht2
              refine ⟨by rw [h1, g1]; simp [codL], by simp [TT.flts, h2, g2], ⟨h3, g3⟩, by simp [clnL, h4, g4]⟩
theorem dec_form : ∀ (f : Nat) (q : List Int) (ps : List (TT PS)), Byt q → decS f q = .ok ps → q = codL ps ∧ TT.flts PS.kind ps 0 = 0 ∧ TT.alls PS.fits ps ∧ clnL ps = ps
  | 0, q, ps, _, h => by simp [decS] at h
  | f + 1, [], ps, _, h => by
    unfold decS at h
    cases h
    exact ⟨rfl, rfl, trivial, rfl⟩
  | f + 1, k :: q, ps, hb, h => by
    unfold decS at h
    split at h
    · cases h
    · rename_i p r1 ht
      split at h
      · cases h
      · rename_i ps' ht2
        cases h
        obtain ⟨h1, h2, h3, h4⟩ := (read_form f).1 _ _ _ _ hb ht
        have hb1 : Byt r1 := fun x hx => hb x (by rw [h1]; exact List.mem_append_right _ hx)
        obtain ⟨g1, g2, g3, g4⟩ := dec_form f r1 ps' hb1 ht2
        refine ⟨by rw [h1, g1]; simp [codL], by simp [TT.flts, h2, g2], ⟨h3, g3⟩, by simp [clnL, h4, g4]⟩
end Go.Proofs.YtplfmpcoojkjlaaDoor
