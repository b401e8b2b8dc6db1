/- Beginnings of codes; spans. No program here. -/
import Derived.Test.YtplfmpcoojkjlaaDoorK43
namespace Go.Proofs.YtplfmpcoojkjlaaDoor
open Go.RowKit
/-! ### faults of reading -/
theorem read_err (f : Nat) : (∀ q deep e, takeS f q deep = .err e → e = 40 ∨ e = 41) ∧ (∀ q deep e, tupS f q deep = .err e → e = 40 ∨ e = 41) := by
  induction f with
  | zero => exact ⟨fun q deep e h => by simp [takeS] at h; exact .inl h.symm, fun q deep e h => by simp [tupS] at h; exact .inl h.symm⟩
  | succ f ih =>
    obtain ⟨ih1, ih2⟩ := ih
    refine ⟨fun q deep e h => ?_, fun q deep e h => ?_⟩
    · cases q with
      | nil => simp [takeS] at h; exact .inl h.symm
      | cons k q =>
        unfold takeS at h
        repeat' split at h
        all_goals first
          | (cases h; done)
          | (cases h; exact .inl rfl)
          | (cases h; exact .inr rfl)
          | (cases h; rename_i ht; exact ih2 _ _ _ ht)
    · cases q with
      | nil => simp [tupS] at h; exact .inl h.symm
      | cons k q =>
        unfold tupS at h
        split at h
        · cases h
        · split at h
          · rename_i ht
            cases h
            exact ih1 _ _ _ ht
          · split at h
            · rename_i ht
              cases h
              exact ih2 _ _ _ ht
            · cases h
theorem dec_err : ∀ (f : Nat) (q : List Int) (e : Int), decS f q = .err e → e = 40 ∨ e = 41
  | 0, q, e, h => by simp [decS] at h; exact .inl h.symm
  | f + 1, [], e, h => by simp [decS] at h
  | f + 1, k :: q, e, h => by
    unfold decS at h
    split at h
    · rename_i ht
      cases h
      exact (read_err f).1 _ _ _ ht
    · split at h
      · rename_i ht
        cases h
        exact dec_err f _ _ ht
      · cases h
/-! ### what is read goes on being read when more follows -/
theorem textS_ext : ∀ (n : Nat) (q t r z : List Int), q.length ≤ n → textS q = some (t, r) → r ≠ [] → textS (q ++ z) = some (t, r ++ z)
  | _, [], t, r, _, _, h, _ => by simp [textS] at h
  | 0, c :: q, t, r, _, hn, _, _ => absurd hn (by simp)
  | n + 1, [c], t, r, z, _, h, hr => by
    unfold textS at h
    split at h
    · obtain ⟨rfl, rfl⟩ : [] = t ∧ [] = r := by simpa using h
      exact absurd rfl hr
    · simp [textS] at h
  | n + 1, c :: d :: q, t, r, z, hn, h, hr => by
    unfold textS at h
    simp only [List.cons_append]
    unfold textS
    split at h
    · rename_i hc
      rw [if_pos hc]
      dsimp only at h ⊢
      split at h
      · rename_i hd
        rw [if_pos hd]
        obtain ⟨⟨t', r'⟩, h1, h2⟩ := Option.map_eq_some_iff.1 h
        simp only [Prod.mk.injEq] at h2
        obtain ⟨rfl, rfl⟩ := h2
        rw [textS_ext n q t' r' z (by simp at hn; omega) h1 hr]
        rfl
      · rename_i hd
        rw [if_neg hd]
        obtain ⟨rfl, rfl⟩ : [] = t ∧ d :: q = r := by simpa using h
        rfl
    · rename_i hc
      rw [if_neg hc]
      obtain ⟨⟨t', r'⟩, h1, h2⟩ := Option.map_eq_some_iff.1 h
      simp only [Prod.mk.injEq] at h2
      obtain ⟨rfl, rfl⟩ := h2
      have := textS_ext n (d :: q) t' r' z (by simpa using hn) h1 hr
      rw [List.cons_append] at this
      rw [this]
      rfl
theorem take_app {q : List Int} {n : Nat} (h : n ≤ q.length) (z : List Int) : (q ++ z).take n = q.take n := by
  rw [List.take_append, show n - q.length = 0 by omega, List.take_zero, List.append_nil]
theorem drop_app {q : List Int} {n : Nat} (h : n ≤ q.length) (z : List Int) : (q ++ z).drop n = q.drop n ++ z := by
  rw [List.drop_append, show n - q.length = 0 by omega, List.drop_zero]
theorem read_ext (f : Nat) : (∀ q z deep p r, takeS f q deep = .ok (p, r) → r ≠ [] → takeS f (q ++ z) deep = .ok (p, r ++ z)) ∧ (∀ q z deep ps r, tupS f q deep = .ok (ps, r) → tupS f (q ++ z) deep = .ok (ps, r ++ z)) := by
  induction f with
  | zero => exact ⟨fun q z deep p r h => by simp [takeS] at h, fun q z deep ps r h => by simp [tupS] at h⟩
  | succ f ih =>
    obtain ⟨ih1, ih2⟩ := ih
    refine ⟨fun q z deep p r h hr => ?_, fun q z deep ps r h => ?_⟩
    · cases q with
      | nil => simp [takeS] at h
      | cons k q =>
        unfold takeS at h
        simp only [List.cons_append]
        unfold takeS
        split at h
        · rename_i hk
          rw [if_pos hk]
          cases h
          rfl
        rename_i hk1
        rw [if_neg hk1]
        split at h
        · rename_i hk
          rw [if_pos hk]
          split at h
          · cases h
          · split at h
            · rename_i hlt
              cases h
              simp only [List.cons_append]
              rw [if_pos hlt]
            · cases h
        rename_i hk2
        rw [if_neg hk2]
        split at h
        · rename_i hk
          rw [if_pos hk]
          split at h
          · cases h
          · rename_i hlen
            cases h
            rw [if_neg (by rw [List.length_append]; omega), take_app (by omega), drop_app (by omega)]
        rename_i hk3
        rw [if_neg hk3]
        split at h
        · rename_i hk
          rw [if_pos hk]
          split at h
          · cases h
          · rename_i hlen
            split at h
            · rename_i hc
              cases h
              rw [if_neg (by rw [List.length_append]; omega), take_app (by omega), drop_app (by omega), if_pos hc]
            · cases h
        rename_i hk4
        rw [if_neg hk4]
        split at h
        · rename_i hk
          rw [if_pos hk]
          split at h
          · cases h
          · rename_i hlen
            split at h
            · rename_i hc
              cases h
              rw [if_neg (by rw [List.length_append]; omega), take_app (show 8 ≤ q.length by omega), drop_app (show 8 ≤ q.length by omega), take_app (by rw [List.length_drop]; omega), drop_app (by omega), if_pos hc]
            · cases h
        rename_i hk5
        rw [if_neg hk5]
        split at h
        · rename_i hk
          rw [if_pos hk]
          split at h
          · cases h
          · rename_i t r' ht
            cases h
            rw [textS_ext _ q _ _ z (Nat.le_refl _) ht hr]
        rename_i hk6
        rw [if_neg hk6]
        split at h
        · rename_i hk
          rw [if_pos hk]
          split at h
          · cases h
          · rename_i hdeep
            rw [if_neg hdeep]
            split at h
            · cases h
            · rename_i ps r' ht
              cases h
              rw [ih2 _ z _ _ _ ht]
        · cases h
    · cases q with
      | nil => simp [tupS] at h
      | cons k q =>
        unfold tupS at h
        simp only [List.cons_append]
        unfold tupS
        split at h
        · rename_i hk
          rw [if_pos hk]
          cases h
          rfl
        · rename_i hk
          rw [if_neg hk]
          split at h
          · cases h
          · rename_i p r1 ht
            split at h
            · cases h
            · rename_i ps' r2 ht2
              cases h
              have hr1 : r1 ≠ [] := fun e => by
                subst e
                cases f with
                | zero => simp [tupS] at ht2
                | succ f => simp [tupS] at ht2
              have h1 := ih1 _ z _ _ _ ht hr1
              rw [List.cons_append] at h1
              rw [h1]
              simp only
              rw [ih2 _ z _ _ _ ht2]
theorem read_ext41 (f : Nat) : (∀ q z deep, takeS f q deep = .err 41 → takeS f (q ++ z) deep = .err 41) ∧ (∀ q z deep, tupS f q deep = .err 41 → tupS f (q ++ z) deep = .err 41) := by
  induction f with
  | zero => exact ⟨fun q z deep h => by simp [takeS] at h, fun q z deep h => by simp [tupS] at h⟩
  | succ f ih =>
    obtain ⟨ih1, ih2⟩ := ih
    refine ⟨fun q z deep h => ?_, fun q z deep h => ?_⟩
    · cases q with
      | nil => simp [takeS] at h
      | cons k q =>
        unfold takeS at h
        simp only [List.cons_append]
        unfold takeS
        split at h
        · cases h
        rename_i hk1
        rw [if_neg hk1]
        split at h
        · split at h
          · cases h
          · split at h <;> cases h
        rename_i hk2
        rw [if_neg hk2]
        split at h
        · split at h <;> cases h
        rename_i hk3
        rw [if_neg hk3]
        split at h
        · split at h
          · cases h
          · split at h <;> cases h
        rename_i hk4
        rw [if_neg hk4]
        split at h
        · split at h
          · cases h
          · split at h <;> cases h
        rename_i hk5
        rw [if_neg hk5]
        split at h
        · split at h <;> cases h
        rename_i hk6
        rw [if_neg hk6]
        split at h
        · rename_i hk
          rw [if_pos hk]
          split at h
          · rename_i hdeep
            rw [if_pos hdeep]
          · rename_i hdeep
            rw [if_neg hdeep]
            split at h
            · rename_i e ht
              cases h
              rw [ih2 _ z _ ht]
            · cases h
        · cases h
    · cases q with
      | nil => simp [tupS] at h
      | cons k q =>
        unfold tupS at h
        simp only [List.cons_append]
        unfold tupS
        split at h
        · cases h
        · rename_i hk
          rw [if_neg hk]
          split at h
          · rename_i e ht
            cases h
            have h1 := ih1 _ z _ ht
            rw [List.cons_append] at h1
            rw [h1]
          · rename_i p r1 ht
            split at h
            · rename_i e ht2
              cases h
              have hr1 : r1 ≠ [] := fun e => by
                subst e
                cases f with
                | zero => simp [tupS] at ht2
                | succ f => simp [tupS] at ht2
              have h1 := (read_ext f).1 _ z _ _ _ ht hr1
              rw [List.cons_append] at h1
              rw [h1]
              simp only
              rw [ih2 _ z _ ht2]
            · cases h
theorem dec_ext41 : ∀ (f : Nat) (q z : List Int), decS f q = .err 41 → decS f (q ++ z) = .err 41
  | 0, q, z, h => by simp [decS] at h
  | f + 1, [], z, h => by simp [decS] at h
  | f + 1, k :: q, z, h => by
    unfold decS at h
    simp only [List.cons_append]
    unfold decS
    split at h
    · rename_i e ht
      cases h
      have h1 := (read_ext41 f).1 _ z _ ht
      rw [List.cons_append] at h1
      rw [h1]
    · rename_i p r1 ht
      split at h
      · rename_i e ht2
        cases h
        have hr1 : r1 ≠ [] := fun e => by
          subst e
          cases f with
          | zero => simp [decS] at ht2
          | succ f => simp [decS] at ht2
        have h1 := (read_ext f).1 _ z _ _ _ ht hr1
        rw [List.cons_append] at h1
        rw [h1]
        simp only
        rw [dec_ext41 f _ z ht2]
      · cases h
/-! ### beginnings -/
theorem cmpX_pre : ∀ (xs : List Int) (z : List Int), z ≠ [] → cmpX xs (xs ++ z) = -1
  | [], z, h => by cases z with
    | nil => exact absurd rfl h
    | cons x z => rfl
  | x :: xs, z, h => by rw [List.cons_append, cmpX_cons_eq, cmpX_pre xs z h]
theorem pre_len : ∀ (ps qs : List (TT PS)) (z : List Int), TT.flts PS.kind ps 0 = 0 → TT.flts PS.kind qs 0 = 0 → TT.alls PS.fits ps → TT.alls PS.fits qs → codL ps ++ z = codL qs → ps.length ≤ qs.length
  | [], qs, z, _, _, _, _, _ => by simp
  | p :: ps, [], z, _, _, _, _, h => by
    have := codT_pos p
    have h2 := congrArg List.length h
    simp only [codL, List.length_append, List.length_nil] at h2
    omega
  | [p], q :: qs, z, _, _, _, _, _ => by simp
  | p :: p' :: ps, q :: qs, z, hp, hq, fp, fq, h => by
    have hl1 : Low (codL (p' :: ps) ++ z) := by
      obtain ⟨s, t, rs⟩ := p'
      have := flt_ok (flts_cons (flts_cons hp).2).1
      simp only [codL, codT, List.cons_append]
      exact Low.cons (by omega)
    have hl2 := codL_low qs 0 [] (flts_cons hq).2 Low.nil
    rw [List.append_nil] at hl2
    have h1 := cmp_codT p q 0 0 (codL (p' :: ps) ++ z) (codL qs) (flts_cons hp).1 (flts_cons hq).1 fp.1 fq.1 hl1 hl2
    have h2 : codT p ++ (codL (p' :: ps) ++ z) = codT q ++ codL qs := by
      rw [← List.append_assoc]
      exact h
    rw [h2, cmpX_self] at h1
    split at h1
    · have := pre_len (p' :: ps) qs z (flts_cons hp).2 (flts_cons hq).2 fp.2 fq.2 (cmpX_eq _ _ h1.symm)
      simp only [List.length_cons] at this ⊢
      omega
    · rename_i hne
      exact absurd h1.symm hne
/-! ### the order of rows -/
theorem cmpT_cod (p q : TT PS) (d1 d2 : Nat) (hp : p.flt PS.kind d1 = 0) (hq : q.flt PS.kind d2 = 0) (fp : p.all PS.fits) (fq : q.all PS.fits) : cmpT p q = cmpX (codT p) (codT q) := by
  have := cmp_codT p q d1 d2 [] [] hp hq fp fq Low.nil Low.nil
  rw [List.append_nil, List.append_nil] at this
  rw [this]
  split
  · rename_i h; rw [h]; rfl
  · rfl
/-- Whose codes lie in the span of a row: the rows that begin with it. -/
theorem span_iff : ∀ (rs us : List (TT PS)), TT.flts PS.kind rs 0 = 0 → TT.flts PS.kind us 0 = 0 → TT.alls PS.fits rs → TT.alls PS.fits us →
    ((cmpX (codL rs) (codL us) ≤ 0 ∧ cmpX (codL us) (codL rs ++ [8]) < 0) ↔ (rs.length ≤ us.length ∧ cmpL rs (us.take rs.length) = 0))
  | [], [], _, _, _, _ => by simp [codL, cmpX, cmpL]
  | [], .mk s t ps :: us, _, hu, _, _ => by
    have := flt_ok (flts_cons hu).1
    simp only [codL, codT, List.nil_append, List.cons_append]
    rw [cmpX_cons_ne (by omega)]
    simp [cmpX, cmpL, sgn, show s.kind < 8 by omega]
  | .mk s t ps :: rs, [], _, _, _, _ => by simp [codL, codT, cmpX]
  | r :: rs, u :: us, hr, hu, fr, fu => by
    have hl1 := codL_low rs 0 [] (flts_cons hr).2 Low.nil
    have hl2 := codL_low us 0 [] (flts_cons hu).2 Low.nil
    have hl3 := codL_low rs 0 [8] (flts_cons hr).2 (Low.cons (by decide))
    rw [List.append_nil] at hl1 hl2
    have ih := span_iff rs us (flts_cons hr).2 (flts_cons hu).2 fr.2 fu.2
    have h1 := cmp_codT r u 0 0 (codL rs) (codL us) (flts_cons hr).1 (flts_cons hu).1 fr.1 fu.1 hl1 hl2
    have h2 := cmp_codT u r 0 0 (codL us) (codL rs ++ [8]) (flts_cons hu).1 (flts_cons hr).1 fu.1 fr.1 hl2 hl3
    have h3 : cmpT u r = - cmpT r u := by
      rw [cmpT_cod u r 0 0 (flts_cons hu).1 (flts_cons hr).1 fu.1 fr.1, cmpT_cod r u 0 0 (flts_cons hr).1 (flts_cons hu).1 fr.1 fu.1, cmpX_neg]
    simp only [codL, List.append_assoc, h1, h2, h3, List.length_cons, List.take_succ_cons, cmpL]
    by_cases he : cmpT r u = 0
    · rw [he]
      simp only [if_true, Int.neg_zero]
      rw [ih]
      constructor
      · rintro ⟨a, b⟩; exact ⟨by omega, b⟩
      · rintro ⟨a, b⟩; exact ⟨by omega, b⟩
    · rw [if_neg he, if_neg (by omega), if_neg he]
      constructor
      · rintro ⟨a, b⟩; omega
      · rintro ⟨a, b⟩; exact absurd b he
end Go.Proofs.YtplfmpcoojkjlaaDoor
