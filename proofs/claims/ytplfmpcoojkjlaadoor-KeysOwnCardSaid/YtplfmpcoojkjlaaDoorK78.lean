/- What KeysOwn keeps an eye on: rows of one's own, each in a block of its own. -/
import Derived.Test.YtplfmpcoojkjlaaDoorK76
import Derived.Test.YtplfmpcoojkjlaaDoorK77
import Derived.Test.YtplfmpcoojkjlaaDoorK59
namespace Go.Proofs.YtplfmpcoojkjlaaDoor
open Go.RowKit Go.Proofs.YtplfmpcoojkjlaaDoorW.PrintWords
def SlH.ids (s : SlH) : List Nat := Hdr.ids ⟨s.A, s.c⟩
def idsS (vs : List SlH) : List Nat := vs.flatMap SlH.ids
theorem idsS_cons (s : SlH) (vs : List SlH) : idsS (s :: vs) = s.ids ++ idsS vs := rfl
theorem idsS_app (us vs : List SlH) : idsS (us ++ vs) = idsS us ++ idsS vs := by simp [idsS]
theorem SlH.mem_ids {s : SlH} {b : Nat} (h : s.v.ownBlock = some b) : b ∈ s.ids := by
  rw [SlH.v, own_blk] at h
  cases hA : s.A with
  | none => rw [hA] at h; cases h
  | some a => rw [hA] at h; simp at h; simp [SlH.ids, Hdr.ids, hA, h]
theorem SlH.ids_mem {s : SlH} {b : Nat} (h : b ∈ s.ids) : s.v.ownBlock = some b := by
  rw [SlH.v, own_blk]
  cases hA : s.A with
  | none => simp [SlH.ids, Hdr.ids, hA] at h
  | some a => simp [SlH.ids, Hdr.ids, hA] at h; simp [h]
mutual
theorem LT.ids_count (q : Nat) : ∀ p : LT VS, p.ids.count q = (idsS p.txs).count q + (idsS p.rws).count q
  | .mk s th t ph ps => by
    have ih := LT.idss_count q ps
    simp only [LT.ids, LT.txs, LT.rws, idsS_cons, List.count_append, SlH.ids]
    have h1 : (Hdr.ids ⟨th.A, th.cap⟩) = th.ids := rfl
    have h2 : (Hdr.ids ⟨ph.A, ph.cap⟩) = ph.ids := rfl
    rw [h1, h2]
    omega
theorem LT.idss_count (q : Nat) : ∀ ps : List (LT VS), (LT.idss ps).count q = (idsS (LT.txss ps)).count q + (idsS (LT.rwss ps)).count q
  | [] => rfl
  | p :: ps => by
    have h1 := LT.ids_count q p
    have h2 := LT.idss_count q ps
    simp only [LT.idss, LT.txss, LT.rwss, idsS_app, List.count_append]
    omega
end
/-- Two that have a block in common are one. -/
theorem one_of_count {α : Type} (f : α → List Nat) (b : Nat) : ∀ (l : List α), (l.flatMap f).count b ≤ 1 → ∀ (j k : Nat) (s t : α), l[j]? = some s → l[k]? = some t → b ∈ f s → b ∈ f t → j = k
  | [], _, j, _, _, _, hj, _, _, _ => by simp at hj
  | x :: l, h, j, k, s, t, hj, hk, hs, ht => by
    rw [List.flatMap_cons, List.count_append] at h
    have hin : ∀ (i : Nat) (u : α), l[i]? = some u → b ∈ f u → 1 ≤ (l.flatMap f).count b := fun i u hi hu => List.count_pos_iff.2 (List.mem_flatMap.2 ⟨u, List.mem_of_getElem? hi, hu⟩)
    cases j with
    | zero =>
      cases k with
      | zero => rfl
      | succ k =>
        simp only [List.getElem?_cons_zero, Option.some.injEq, List.getElem?_cons_succ] at hj hk
        subst hj
        have h1 := List.count_pos_iff.2 hs
        have h2 := hin k t hk ht
        omega
    | succ j =>
      cases k with
      | zero =>
        simp only [List.getElem?_cons_zero, Option.some.injEq, List.getElem?_cons_succ] at hj hk
        subst hk
        have h1 := List.count_pos_iff.2 ht
        have h2 := hin j s hj hs
        omega
      | succ k =>
        simp only [List.getElem?_cons_succ] at hj hk
        rw [one_of_count f b l (by omega) j k s t hj hk hs ht]
def idsT (T : List (SlH × List Int)) : List Nat := T.flatMap fun x => x.1.ids
def idsR {σ : Type} (R : List (Hdr × List (LT σ))) : List Nat := R.flatMap fun x => x.1.ids ++ LT.idss x.2
structure Led (w : World) (N : Nat) (T : List (SlH × List Int)) (R : List (Hdr × List (LT VS))) (C : List (Hdr × List (LT PS))) : Prop where
  hN : N ≤ w.heap.size
  tx : ∀ x ∈ T, OwnB w N x.1.v x.2 ∧ x.2.length = x.1.n
  tr : ∀ x ∈ R, OwnL VS.enc 5 46 w x.1 x.2
  tc : ∀ x ∈ C, OwnP w x.1 x.2
  nd : ∀ q, (idsT T).count q + (idsR R).count q + (idsR C).count q ≤ 1
  ge : ∀ q, q ∈ idsT T ∨ q ∈ idsR R ∨ q ∈ idsR C → N ≤ q ∧ q < w.heap.size
theorem Led.nil {w : World} {N : Nat} (h : N ≤ w.heap.size) : Led w N [] [] [] := ⟨h, (fun x hx => by cases hx), (fun x hx => by cases hx), (fun x hx => by cases hx), (fun q => Nat.zero_le _), (fun q hq => by rcases hq with h | h | h <;> cases h)⟩
theorem memT {T : List (SlH × List Int)} {x : SlH × List Int} (h : x ∈ T) {b : Nat} (hb : x.1.v.ownBlock = some b) : b ∈ idsT T := List.mem_flatMap.2 ⟨x, h, SlH.mem_ids hb⟩
theorem memR {σ : Type} {R : List (Hdr × List (LT σ))} {x : Hdr × List (LT σ)} (h : x ∈ R) {b : Nat} (hb : b ∈ x.1.ids ∨ b ∈ LT.idss x.2) : b ∈ idsR R := List.mem_flatMap.2 ⟨x, h, List.mem_append.2 hb⟩
theorem Led.keep {w w' : World} {N : Nat} {T : List (SlH × List Int)} {R : List (Hdr × List (LT VS))} {C : List (Hdr × List (LT PS))} (h : Led w N T R C) (hs : w.heap.size ≤ w'.heap.size) (hm : ∀ q, N ≤ q → q < w.heap.size → (q ∈ idsT T ∨ q ∈ idsR R ∨ q ∈ idsR C) → w'.heap[q]? = w.heap[q]?) : Led w' N T R C := by
  have hk : ∀ q, (q ∈ idsT T ∨ q ∈ idsR R ∨ q ∈ idsR C) → w'.heap[q]? = w.heap[q]? := fun q hq => hm q (h.ge q hq).1 (h.ge q hq).2 hq
  refine ⟨Nat.le_trans h.hN hs, fun x hx => ⟨ownsRow_move (h.tx x hx).1 fun k hk' => hk k (.inl (memT hx hk')), (h.tx x hx).2⟩, fun x hx => (h.tr x hx).move fun k hk' => hk k (.inr (.inl (memR hx hk'))), fun x hx => ?_, h.nd, fun q hq => ⟨(h.ge q hq).1, Nat.lt_of_lt_of_le (h.ge q hq).2 hs⟩⟩
  exact (show OwnL PS.enc 5 69 w' x.1 x.2 from OwnL.move (h.tc x hx) fun k hk' => hk k (.inr (.inr (memR hx hk'))))
theorem Led.below {w w' : World} {N : Nat} {T : List (SlH × List Int)} {R : List (Hdr × List (LT VS))} {C : List (Hdr × List (LT PS))} (h : Led w N T R C) (hb : Below w.heap.size w w') : Led w' N T R C :=
  h.keep hb.size fun q _ hq _ => hb.block q hq
theorem count_fresh {l : List Nat} {M q : Nat} (h : ∀ k ∈ l, M ≤ k) (hq : q < M) : l.count q = 0 := List.count_eq_zero.2 fun hm => by have := h q hm; omega
theorem Led.old {w : World} {N : Nat} {T : List (SlH × List Int)} {R : List (Hdr × List (LT VS))} {C : List (Hdr × List (LT PS))} (h : Led w N T R C) {q : Nat} (hq : w.heap.size ≤ q) : (idsT T).count q + (idsR R).count q + (idsR C).count q = 0 := by
  have h1 : (idsT T).count q = 0 := List.count_eq_zero.2 fun hm => by have := h.ge q (.inl hm); omega
  have h2 : (idsR R).count q = 0 := List.count_eq_zero.2 fun hm => by have := h.ge q (.inr (.inl hm)); omega
  have h3 : (idsR C).count q = 0 := List.count_eq_zero.2 fun hm => by have := h.ge q (.inr (.inr hm)); omega
  omega
theorem SlH.ids_le (s : SlH) (q : Nat) : s.ids.count q ≤ 1 := by
  unfold SlH.ids Hdr.ids
  cases s.A with
  | none => simp
  | some a => simp [List.count_cons]; split <;> omega
theorem Led.addT {w w' : World} {N : Nat} {T : List (SlH × List Int)} {R : List (Hdr × List (LT VS))} {C : List (Hdr × List (LT PS))} (h : Led w N T R C) (hb : Below w.heap.size w w') (s : SlH) (xs : List Int) (hl : xs.length = s.n) (ho : OwnB w' w.heap.size s.v xs) : Led w' N ((s, xs) :: T) R C := by
  have h' := h.below hb
  have hid : ∀ k ∈ s.ids, w.heap.size ≤ k ∧ k < w'.heap.size := fun k hk => ⟨own_base ho k (SlH.ids_mem hk), own_lt ho k (SlH.ids_mem hk)⟩
  refine ⟨h'.hN, fun x hx => ?_, h'.tr, h'.tc, fun q => ?_, fun q hq => ?_⟩
  · rcases List.mem_cons.1 hx with rfl | hx
    · exact ⟨ho.base h.hN, hl⟩
    · exact h'.tx x hx
  · rw [show idsT ((s, xs) :: T) = s.ids ++ idsT T from rfl, List.count_append]
    have h1 := h.nd q
    have h2 := s.ids_le q
    rcases Nat.lt_or_ge q w.heap.size with hq | hq
    · have := count_fresh (fun k hk => (hid k hk).1) hq
      omega
    · have := h.old hq
      omega
  · rcases hq with hq | hq
    · rcases List.mem_append.1 (show q ∈ s.ids ++ idsT T from hq) with hq | hq
      · have := hid q hq
        have := h.hN
        omega
      · exact h'.ge q (.inl hq)
    · exact h'.ge q (.inr hq)
theorem Led.addT2 {w w' : World} {N : Nat} {T : List (SlH × List Int)} {R : List (Hdr × List (LT VS))} {C : List (Hdr × List (LT PS))} (h : Led w N T R C) (hb : Below w.heap.size w w') (s t : SlH) (xs ys : List Int) (hl : xs.length = s.n) (hl2 : ys.length = t.n) (ho : OwnB w' w.heap.size s.v xs) (ho2 : OwnB w' w.heap.size t.v ys) (hne : ∀ a b, s.A = some a → t.A = some b → a.block ≠ b.block) : Led w' N ((s, xs) :: (t, ys) :: T) R C := by
  have h' := h.addT hb t ys hl2 ho2
  have hid : ∀ k ∈ s.ids, w.heap.size ≤ k ∧ k < w'.heap.size := fun k hk => ⟨own_base ho k (SlH.ids_mem hk), own_lt ho k (SlH.ids_mem hk)⟩
  refine ⟨h'.hN, fun x hx => ?_, h'.tr, h'.tc, fun q => ?_, fun q hq => ?_⟩
  · rcases List.mem_cons.1 hx with rfl | hx
    · exact ⟨ho.base h.hN, hl⟩
    · exact h'.tx x hx
  · rw [show idsT ((s, xs) :: (t, ys) :: T) = s.ids ++ idsT ((t, ys) :: T) from rfl, List.count_append]
    have h1 := h'.nd q
    have h2 := s.ids_le q
    rcases Nat.lt_or_ge q w.heap.size with hq | hq
    · have := count_fresh (fun k hk => (hid k hk).1) hq
      omega
    · have h3 := h.old hq
      rw [show idsT ((t, ys) :: T) = t.ids ++ idsT T from rfl, List.count_append] at h1 ⊢
      by_cases hs : q ∈ s.ids
      · have : t.ids.count q = 0 := List.count_eq_zero.2 fun ht => by
          have e1 := SlH.ids_mem hs
          have e2 := SlH.ids_mem ht
          rw [SlH.v, own_blk] at e1 e2
          obtain ⟨a, ha, e1⟩ := Option.map_eq_some_iff.1 e1
          obtain ⟨b, hb, e2⟩ := Option.map_eq_some_iff.1 e2
          exact hne a b ha hb (e1.trans e2.symm)
        omega
      · have : s.ids.count q = 0 := List.count_eq_zero.2 hs
        omega
  · rcases hq with hq | hq
    · rcases List.mem_append.1 (show q ∈ s.ids ++ idsT ((t, ys) :: T) from hq) with hq | hq
      · have := hid q hq
        have := h.hN
        omega
      · exact h'.ge q (.inl hq)
    · exact h'.ge q (.inr hq)
theorem Led.addR {w w' : World} {N : Nat} {T : List (SlH × List Int)} {R : List (Hdr × List (LT VS))} {C : List (Hdr × List (LT PS))} (h : Led w N T R C) (hb : Below w.heap.size w w') (x : Hdr) (ls : List (LT VS)) (ho : OwnL VS.enc 5 46 w' x ls) (hnd : (x.ids ++ LT.idss ls).Nodup) (hge : ∀ k ∈ x.ids ++ LT.idss ls, w.heap.size ≤ k) : Led w' N T ((x, ls) :: R) C := by
  have h' := h.below hb
  refine ⟨h'.hN, h'.tx, fun y hy => ?_, h'.tc, fun q => ?_, fun q hq => ?_⟩
  · rcases List.mem_cons.1 hy with rfl | hy
    · exact ho
    · exact h'.tr y hy
  · rw [show idsR ((x, ls) :: R) = (x.ids ++ LT.idss ls) ++ idsR R from rfl, List.count_append]
    have h1 := h.nd q
    have h2 := List.nodup_iff_count.1 hnd q
    rcases Nat.lt_or_ge q w.heap.size with hq | hq
    · have := count_fresh hge hq
      omega
    · have := h.old hq
      omega
  · rcases hq with hq | hq | hq
    · exact h'.ge q (.inl hq)
    · rcases List.mem_append.1 (show q ∈ (x.ids ++ LT.idss ls) ++ idsR R from hq) with hq | hq
      · have := hge q hq
        have := ho.lt q hq
        have := h.hN
        omega
      · exact h'.ge q (.inr (.inl hq))
    · exact h'.ge q (.inr (.inr hq))
theorem Led.addC {w w' : World} {N : Nat} {T : List (SlH × List Int)} {R : List (Hdr × List (LT VS))} (h : Led w N T R []) (x : Hdr) (ls : List (LT PS)) (hc : Cr w w' x ls) : Led w' N T R [(x, ls)] := by
  have h' := h.below hc.below
  have he : idsR [(x, ls)] = x.ids ++ LT.idss ls := by simp [idsR]
  refine ⟨h'.hN, h'.tx, h'.tr, fun y hy => ?_, fun q => ?_, fun q hq => ?_⟩
  · rw [List.mem_singleton.1 hy]
    exact hc.own
  · rw [he]
    have h1 := h.nd q
    have h2 := List.nodup_iff_count.1 hc.nd q
    rcases Nat.lt_or_ge q w.heap.size with hq | hq
    · have := count_fresh hc.ge hq
      have h3 : (idsR ([] : List (Hdr × List (LT PS)))).count q = 0 := rfl
      omega
    · have := h.old hq
      omega
  · rcases hq with hq | hq | hq
    · exact h'.ge q (.inl hq)
    · exact h'.ge q (.inr (.inl hq))
    · rw [he] at hq
      have := hc.ge q hq
      have := hc.own.lt q hq
      have := h.hN
      omega
/-- One of them is written. -/
theorem Led.put {w w' : World} {N : Nat} {T : List (SlH × List Int)} {R : List (Hdr × List (LT VS))} {C : List (Hdr × List (LT PS))} (h : Led w N T R C) (i : Nat) (s : SlH) (xs ys : List Int) (hi : T[i]? = some (s, xs)) (hl : ys.length = s.n) (ho : OwnB w' N s.v ys) (hs : w.heap.size ≤ w'.heap.size) (hm : ∀ b, s.v.ownBlock ≠ some b → w'.heap[b]? = w.heap[b]?) : Led w' N (T.set i (s, ys)) R C := by
  have hin : ∀ b, s.v.ownBlock = some b → 1 ≤ (idsT T).count b := fun b hb => List.count_pos_iff.2 (memT (List.mem_of_getElem? hi) hb)
  have hids : idsT (T.set i (s, ys)) = idsT T := by
    unfold idsT
    rw [List.flatMap_def, List.flatMap_def, List.map_set]
    congr 1
    apply List.ext_getElem?
    intro j
    by_cases hj : j = i
    · subst hj
      have hlt := (List.getElem?_eq_some_iff.1 hi).1
      rw [List.getElem?_set_self (by simpa using hlt), List.getElem?_map, hi]
      rfl
    · rw [List.getElem?_set_ne (by omega)]
  refine ⟨Nat.le_trans h.hN hs, fun x hx => ?_, fun x hx => (h.tr x hx).move fun k hk => hm k fun hb => ?_, fun x hx => (show OwnL PS.enc 5 69 w' x.1 x.2 from OwnL.move (h.tc x hx) fun k hk => hm k fun hb => ?_), by rw [hids]; exact h.nd, fun q hq => ?_⟩
  · obtain ⟨j, hj⟩ := List.mem_iff_getElem?.1 hx
    by_cases hji : j = i
    · subst hji
      have hlt := (List.getElem?_eq_some_iff.1 hi).1
      rw [List.getElem?_set_self hlt] at hj
      cases hj
      exact ⟨ho, hl⟩
    · rw [List.getElem?_set_ne (by omega)] at hj
      refine ⟨ownsRow_move (h.tx x (List.mem_of_getElem? hj)).1 fun k hk => hm k fun hb => hji ?_, (h.tx x (List.mem_of_getElem? hj)).2⟩
      exact one_of_count (fun (x : SlH × List Int) => x.1.ids) k T (by have := h.nd k; unfold idsT at this; omega) j i x (s, xs) hj hi (SlH.mem_ids hk) (SlH.mem_ids hb)
  · have h1 := hin k hb
    have h2 := List.count_pos_iff.2 (memR hx hk)
    have := h.nd k
    omega
  · have h1 := hin k hb
    have h2 := List.count_pos_iff.2 (memR hx hk)
    have := h.nd k
    omega
  · rw [hids] at hq
    exact ⟨(h.ge q hq).1, Nat.lt_of_lt_of_le (h.ge q hq).2 hs⟩
/-- What a tree owns, slice by slice. -/
theorem LT.Own.lists {w : World} {l : LT VS} (h : l.Own VS.enc 5 46 w) : (∀ s ∈ l.txs, ∃ xs, OwnB w 0 s.v xs ∧ xs.length = s.n) ∧ ∀ s ∈ l.rws, ∃ ls, OwnN w 0 s.v ls ∧ ls.length = s.n := by
  induction h with
  | @mk l ht hp _ ih =>
    obtain ⟨s, th, t, ph, ps⟩ := l
    have hall : ∀ (f : LT VS → List SlH) (g : List (LT VS) → List SlH), (g [] = []) → (∀ p ps, g (p :: ps) = f p ++ g ps) → ∀ (ps : List (LT VS)) (u : SlH), u ∈ g ps → ∃ p ∈ ps, u ∈ f p := by
      intro f g h0 h1 ps
      induction ps with
      | nil => intro u hu; rw [h0] at hu; cases hu
      | cons p ps ih =>
        intro u hu
        rw [h1] at hu
        rcases List.mem_append.1 hu with hu | hu
        · exact ⟨p, by simp, hu⟩
        · obtain ⟨q, hq, hu⟩ := ih u hu
          exact ⟨q, by simp [hq], hu⟩
    constructor
    · intro u hu
      rcases List.mem_cons.1 (show u ∈ (⟨th.A, t.length, th.cap⟩ : SlH) :: LT.txss ps from hu) with rfl | hu
      · exact ⟨t, ht, rfl⟩
      · obtain ⟨p, hp, hu⟩ := hall LT.txs LT.txss rfl (fun _ _ => rfl) ps u hu
        exact (ih p hp).1 u hu
    · intro u hu
      rcases List.mem_cons.1 (show u ∈ (⟨ph.A, ps.length, ph.cap⟩ : SlH) :: LT.rwss ps from hu) with rfl | hu
      · exact ⟨ps, hp, rfl⟩
      · obtain ⟨p, hp, hu⟩ := hall LT.rws LT.rwss rfl (fun _ _ => rfl) ps u hu
        exact (ih p hp).2 u hu
theorem OwnL.lists {w : World} {h : Hdr} {ls : List (LT VS)} (k : OwnL VS.enc 5 46 w h ls) : (∀ s ∈ LT.txss ls, ∃ xs, OwnB w 0 s.v xs ∧ xs.length = s.n) ∧ ∀ s ∈ (⟨h.A, ls.length, h.cap⟩ : SlH) :: LT.rwss ls, ∃ qs, OwnN w 0 s.v qs ∧ qs.length = s.n := by
  have := LT.Own.lists (w := w) (l := .mk ⟨0, false, 0, 0, 0, 0⟩ ⟨none, 0⟩ [] h ls) (.mk ⟨rfl, .inl ⟨rfl, rfl⟩⟩ k.row k.all)
  exact ⟨fun s hs => this.1 s (List.mem_cons_of_mem _ hs), this.2⟩
theorem tx_inv {w : World} {base : Nat} {vs : List SlH} (h : ∀ s ∈ vs, ∃ xs, OwnB w base s.v xs ∧ xs.length = s.n) : ∃ f, TxInv w base vs f := by
  have : ∀ j : Nat, ∃ xs : List Int, ∀ s, vs[j]? = some s → OwnB w base s.v xs ∧ xs.length = s.n := by
    intro j
    cases hj : vs[j]? with
    | none => exact ⟨[], fun s hs => by cases hs⟩
    | some s =>
      obtain ⟨xs, hx⟩ := h s (List.mem_of_getElem? hj)
      exact ⟨xs, fun t ht => by cases ht; exact hx⟩
  obtain ⟨f, hf⟩ := Classical.axiomOfChoice this
  exact ⟨f, hf⟩
theorem nd_inv {w : World} {base : Nat} {vs : List SlH} (h : ∀ s ∈ vs, ∃ xs, OwnN w base s.v xs ∧ xs.length = s.n) : ∃ f, NdInv w base vs f := by
  have : ∀ j : Nat, ∃ xs : List (LT VS), ∀ s, vs[j]? = some s → OwnN w base s.v xs ∧ xs.length = s.n := by
    intro j
    cases hj : vs[j]? with
    | none => exact ⟨[], fun s hs => by cases hs⟩
    | some s =>
      obtain ⟨xs, hx⟩ := h s (List.mem_of_getElem? hj)
      exact ⟨xs, fun t ht => by cases ht; exact hx⟩
  obtain ⟨f, hf⟩ := Classical.axiomOfChoice this
  exact ⟨f, hf⟩
theorem unlike_of {vs : List SlH} {g : Nat} (h : ∀ q, (idsS vs).count q ≤ 1) (hg : g ∉ idsS vs) : Unlike vs g :=
  ⟨fun _ s hj hb => hg (List.mem_flatMap.2 ⟨s, List.mem_of_getElem? hj, SlH.mem_ids hb⟩), fun j k s t b hj hk hs ht => one_of_count SlH.ids b vs (h b) j k s t hj hk (SlH.mem_ids hs) (SlH.mem_ids ht)⟩
/-! ### how great what is read may be -/
mutual
def TT.sz {σ : Type} : TT σ → Nat
  | .mk _ _ ps => 1 + TT.szs ps
def TT.szs {σ : Type} : List (TT σ) → Nat
  | [] => 0
  | p :: ps => p.sz + TT.szs ps
end
mutual
theorem LT.cnt_sz : ∀ l : LT VS, l.cnt = l.pure.sz
  | .mk s th t ph ps => by simp only [LT.cnt, LT.pure, TT.sz, LT.cnts_sz ps]
theorem LT.cnts_sz : ∀ ls : List (LT VS), LT.cnts ls = TT.szs (LT.pures ls)
  | [] => rfl
  | l :: ls => by simp only [LT.cnts, LT.pures, TT.szs, LT.cnt_sz l, LT.cnts_sz ls]
end
mutual
theorem TT.map_sz {σ τ : Type} (f : σ → τ) : ∀ p : TT σ, (p.map f).sz = p.sz
  | .mk s t ps => by simp only [TT.map, TT.sz, TT.maps_sz f ps]
theorem TT.maps_sz {σ τ : Type} (f : σ → τ) : ∀ ps : List (TT σ), TT.szs (TT.maps f ps) = TT.szs ps
  | [] => rfl
  | p :: ps => by simp only [TT.maps, TT.szs, TT.map_sz f p, TT.maps_sz f ps]
end
mutual
theorem codT_sz : ∀ p : TT PS, clnT p = p → p.sz ≤ (codT p).length ∧ ∀ B, (codT p).length ≤ B → p.all fun _ t => t.length ≤ B
  | .mk s t ps => fun h => by
    simp only [clnT, TT.mk.injEq] at h
    obtain ⟨_, h2, h3⟩ := h
    by_cases h7 : s.kind = 7
    · rw [if_pos h7] at h3
      rw [if_neg (by omega)] at h2
      subst h2
      obtain ⟨i1, i2⟩ := codL_sz ps h3
      have he : (codT (.mk s [] ps)).length = (codL ps).length + 2 := by
        rw [codT, if_neg (by omega), if_neg (by omega), if_neg (by omega), if_neg (by omega), if_neg (by omega), if_pos h7]
        simp
      rw [he]
      exact ⟨by simp only [TT.sz]; omega, fun B hB => ⟨Nat.zero_le _, i2 B (by omega)⟩⟩
    · rw [if_neg h7] at h3
      subst h3
      have h1 : 1 ≤ (codT (.mk s t [])).length := by rw [codT]; simp
      refine ⟨by simp only [TT.sz, TT.szs]; omega, fun B hB => ⟨?_, trivial⟩⟩
      by_cases h6 : s.kind = 6
      · have he : (codT (.mk s t [])).length = (esc t).length + 2 := by
          rw [codT, if_neg (by omega), if_neg (by omega), if_neg (by omega), if_neg (by omega), if_pos h6]
          simp
        have := esc_len t
        omega
      · rw [if_neg h6] at h2
        rw [← h2]
        exact Nat.zero_le _
theorem codL_sz : ∀ ps : List (TT PS), clnL ps = ps → TT.szs ps ≤ (codL ps).length ∧ ∀ B, (codL ps).length ≤ B → TT.alls (fun _ t => t.length ≤ B) ps
  | [] => fun _ => ⟨Nat.zero_le _, fun _ _ => trivial⟩
  | p :: ps => fun h => by
    simp only [clnL, List.cons.injEq] at h
    obtain ⟨i1, i2⟩ := codT_sz p h.1
    obtain ⟨i3, i4⟩ := codL_sz ps h.2
    simp only [TT.szs, codL, List.length_append]
    exact ⟨by omega, fun B hB => ⟨i2 B (by omega), i4 B (by omega)⟩⟩
end
mutual
theorem LT.txs_le (B : Nat) : ∀ l : LT VS, l.pure.all (fun _ t => t.length ≤ B) → ∀ s ∈ l.txs, s.n ≤ B
  | .mk _ th t ph ps => fun h s hs => by
    rcases List.mem_cons.1 (show s ∈ (⟨th.A, t.length, th.cap⟩ : SlH) :: LT.txss ps from hs) with rfl | hs
    · exact h.1
    · exact LT.txss_le B ps h.2 s hs
theorem LT.txss_le (B : Nat) : ∀ ls : List (LT VS), TT.alls (fun _ t => t.length ≤ B) (LT.pures ls) → ∀ s ∈ LT.txss ls, s.n ≤ B
  | [] => fun _ s hs => by cases hs
  | l :: ls => fun h s hs => by
    rcases List.mem_append.1 (show s ∈ l.txs ++ LT.txss ls from hs) with hs | hs
    · exact LT.txs_le B l h.1 s hs
    · exact LT.txss_le B ls h.2 s hs
end
mutual
theorem LT.rws_le : ∀ l : LT VS, ∀ s ∈ l.rws, s.n ≤ l.cnt
  | .mk _ th t ph ps => fun s hs => by
    have hl := LT.len_cnts ps
    rcases List.mem_cons.1 (show s ∈ (⟨ph.A, ps.length, ph.cap⟩ : SlH) :: LT.rwss ps from hs) with rfl | hs
    · simp only [LT.cnt]; omega
    · have := LT.rwss_le ps s hs
      simp only [LT.cnt]; omega
theorem LT.rwss_le : ∀ ls : List (LT VS), ∀ s ∈ LT.rwss ls, s.n ≤ LT.cnts ls
  | [] => fun s hs => by cases hs
  | l :: ls => fun s hs => by
    rcases List.mem_append.1 (show s ∈ l.rws ++ LT.rwss ls from hs) with hs | hs
    · have := LT.rws_le l s hs
      simp only [LT.cnts]; omega
    · have := LT.rwss_le ls s hs
      simp only [LT.cnts]; omega
theorem LT.len_cnts : ∀ ls : List (LT VS), ls.length ≤ LT.cnts ls
  | [] => Nat.le_refl _
  | .mk _ _ _ _ ps :: ls => by
    have := LT.len_cnts ls
    simp only [LT.cnts, LT.cnt, List.length_cons]
    omega
end
theorem TT.alls_map {σ τ : Type} (f : σ → τ) {P : List Int → Prop} : ∀ ps : List (TT σ), TT.alls (fun _ t => P t) ps → TT.alls (fun _ t => P t) (TT.maps f ps) := fun ps h => TT.maps_all (P := fun _ t => P t) (Q := fun _ t => P t) f (fun _ _ h => h) ps h
/-- What Decode answers of any bytes; of the same bytes the same. -/
structure Dec (w w' : World) (B : Nat) (h : Hdr) (ls : List (LT VS)) : Prop where
  own : OwnL VS.enc 5 46 w' h ls
  nd : (h.ids ++ LT.idss ls).Nodup
  ge : ∀ k ∈ h.ids ++ LT.idss ls, w.heap.size ≤ k
  cnt : LT.cnts ls ≤ B
  tx : ∀ s ∈ LT.txss ls, s.n ≤ B
  below : Below w.heap.size w w'
theorem dec_gen (qs : List Int) (hq : Byt qs) (hm : qs.length ≤ 1099511627776) : ∃ (er : Int) (n : Nat), ∀ (w : World) (A : Option Addr) (c : Nat), Row w A (nums8 qs) → qs.length ≤ c →
    Calls Tryd.prog 25 #[.slice A qs.length c] w fun e w' => ∃ (h : Hdr) (ls : List (LT VS)), ls.length = n ∧ e = .returned (.tuple #[.slice h.A n h.cap, .int .i64 er]) ∧ Dec w w' qs.length h ls := by
  cases hd : decS (2 * qs.length + 1) qs with
  | err er =>
    refine ⟨er, 0, fun w A c hr hc => (decode_calls (2 * qs.length + 1) w A qs c hr hq hc hm (Nat.le_refl _)).mono fun e w' h => ?_⟩
    unfold DecPost at h
    rw [hd] at h
    obtain ⟨hb, _, he⟩ := h
    exact ⟨⟨none, 0⟩, [], rfl, he, ⟨⟨rfl, .inl ⟨rfl, rfl⟩⟩, fun p hp => by cases hp⟩, List.nodup_nil, fun k hk => (by cases hk), Nat.zero_le _, fun s hs => (by cases hs), hb⟩
  | ok ps =>
    obtain ⟨h1, _, _, h4⟩ := dec_form _ _ _ hq hd
    obtain ⟨s1, s2⟩ := codL_sz ps h4
    refine ⟨0, ps.length, fun w A c hr hc => (decode_calls (2 * qs.length + 1) w A qs c hr hq hc hm (Nat.le_refl _)).mono fun e w' h => ?_⟩
    unfold DecPost at h
    rw [hd] at h
    obtain ⟨hb, h, ls, he, hp, ho, hnd, hge⟩ := h
    have hl : ls.length = ps.length := by
      have := congrArg List.length hp
      rwa [LT.pures_length, TT.maps_length] at this
    refine ⟨h, ls, hl, by rw [← hl]; exact he, ho, hnd, hge, ?_, LT.txss_le _ ls ?_, hb⟩
    · rw [LT.cnts_sz, hp, TT.maps_sz, h1]
      exact s1
    · rw [hp, h1]
      exact TT.alls_map _ _ (s2 _ (Nat.le_refl _))
/-- Of a good row's code: the row. -/
theorem dec_row {ps : List (TT PS)} (hf : TT.flts PS.kind ps 0 = 0) (hp : TT.alls PS.fits ps) (hm : (codL ps).length ≤ 1099511627776) (w : World) (A : Option Addr) (c : Nat) (hr : Row w A (nums8 (codL ps))) (hc : (codL ps).length ≤ c) :
    Calls Tryd.prog 25 #[.slice A (codL ps).length c] w fun e w' => ∃ (h : Hdr) (ls : List (LT VS)), e = .returned (.tuple #[.slice h.A ls.length h.cap, .int .i64 0]) ∧ LT.pures ls = TT.maps PS.ans (clnL ps) ∧ Dec w w' (codL ps).length h ls := by
  obtain ⟨h1, h2, _, _, h5, h6⟩ := back_spec ps hf hp
  obtain ⟨s1, s2⟩ := codL_sz (clnL ps) h5
  rw [h2] at s1 s2
  refine (decode_calls (2 * (codL ps).length + 1) w A (codL ps) c hr h6 hc hm (Nat.le_refl _)).mono fun e w' h => ?_
  unfold DecPost at h
  rw [h1] at h
  obtain ⟨hb, h, ls, he, hp, ho, hnd, hge⟩ := h
  refine ⟨h, ls, he, hp, ho, hnd, hge, ?_, LT.txss_le _ ls ?_, hb⟩
  · rw [LT.cnts_sz, hp, TT.maps_sz]
    exact s1
  · rw [hp]
    exact TT.alls_map _ _ (s2 _ (Nat.le_refl _))
end Go.Proofs.YtplfmpcoojkjlaaDoor
