/- Ground for anew, placed and KeysOwn: rows filled with nodes, copies, what is owned. -/
import Derived.Test.YtplfmpcoojkjlaaDoorK74
import Derived.Test.YtplfmpcoojkjlaaDoorK58
namespace Go.Proofs.YtplfmpcoojkjlaaDoor
open Go.RowKit Go.Proofs.YtplfmpcoojkjlaaDoorW.PrintWords
theorem own_rebase {w : World} {base b0 size n : Nat} {e : TypeId} {v : Value} {xs : List Value} (h : w.ownsRow b0 e size v n xs) (hb : ∀ k, v.ownBlock = some k → base ≤ k) : w.ownsRow base e size v n xs := by
  obtain ⟨h1, h2⟩ := h
  refine ⟨h1, ?_⟩
  rcases h2 with h2 | ⟨g, cap, cur, rfl, hg, r⟩
  · exact .inl h2
  · exact .inr ⟨g, cap, cur, rfl, hb g rfl, r⟩
/-- A row of values of the call's own, that is ps in the document's words. -/
def ValO (w : World) (ps : List (TT PS)) (e : Ending) (w' : World) : Prop := ∃ (A : Option Addr) (ls : List (LT VS)) (c : Nat), e = .returned (.slice A ls.length c) ∧ Good w' A ls ps ∧ OwnN w' w.heap.size (.slice A ls.length c) ls ∧ ls.length = ps.length ∧ Below w.heap.size w w'
theorem val_own (w : World) (A : Option Addr) (c : Nat) (ms : List (LT PS)) (hA : RdL PS.enc w A ms) (hf : TT.alls PS.fits (LT.pures ms)) (hw : TT.wts (LT.pures ms) ≤ 1048576) (w' : World) (hb : Below w.heap.size w w') :
    Calls Tryd.prog 14 #[.slice A ms.length c] w' (ValO w' (LT.pures ms)) :=
  (val_all (LT.cnts ms) w' A c ms (Nat.le_refl _) (hA.below hb) hw).mono fun e w'' ⟨h, ls, he, hp, ho, _, hge, _, hb'⟩ =>
    ⟨h.A, ls, h.cap, he, ⟨ho.rd.1, by rw [hp, maps_ps_all], by rw [hp]; exact TT.maps_all _ PS.all_fit _ hf⟩, own_rebase ho.row fun k hk => hge k (List.mem_append_left _ (Hdr.own_ids _ _ hk)), by
      have := congrArg List.length hp
      rwa [LT.pures_length, TT.maps_length] at this, hb'⟩
theorem alls_of' {σ : Type} {P : σ → List Int → Prop} : ∀ (ps : List (TT σ)), (∀ p ∈ ps, p.all P) → TT.alls P ps
  | [], _ => trivial
  | p :: ps, h => ⟨h p (by simp), alls_of' ps fun q hq => h q (by simp [hq])⟩
theorem Good.copy {w w5 : World} {A A5 : Option Addr} {ls : List (LT VS)} {ps : List (TT PS)} (h : Good w A ls ps) (hb : Below w.heap.size w w5) (hr : Row w5 A5 (rowCells VS.enc ls)) : Good w5 A5 ls ps := ⟨⟨hr, fun p hp => (h.rd.all p hp).keep hb, h.rd.len⟩, h.eq, h.fit⟩
/-- Byte after byte is a 1. -/
theorem ones_step (k : Nat) (xs : List Int) (h : k < xs.length) : (List.replicate k 1 ++ xs.drop k).set k 1 = List.replicate (k + 1) 1 ++ xs.drop (k + 1) := by
  rw [List.set_append, if_neg (by rw [List.length_replicate]; omega), List.length_replicate, Nat.sub_self, List.drop_eq_getElem_cons h, List.set_cons_zero, List.replicate_succ', List.append_assoc]
  rfl
set_option maxRecDepth 100000 in
/-- append([]api.Value{}, row...): a row of one's own. -/
theorem copy_nodes {ops : Array Oper} {rest : List Oper} {o : Oper} {a : Act} {Q : Exit → Act → World → Prop} {W : World} (hgd : o.guard = none) (s x : Operand)
    (ho : o.op = .call { callee := .builtin .append, args := #[s, x], argTypes := #[28, 28] }) (A : Option Addr) (c : Nat) (ls : List (LT VS)) (hs : a.eval s = .slice (some ⟨W.heap.size, 0, none⟩) 0 0) (hx : a.eval x = .slice A ls.length c)
    (hr : Row W A (rowCells VS.enc ls)) (hl : ls.length ≤ 1099511627776)
    (h : ∀ A1 c1 w1, OwnN w1 W.heap.size (.slice A1 ls.length c1) ls → Below W.heap.size W w1 → wpList Tryd.prog ops Q rest (a.put o.dst (.slice A1 ls.length c1)) w1) :
    wpList Tryd.prog ops Q (o :: rest) a (W.alloc (.cells #[] 46)) := by
  have hb1 : Below W.heap.size W (W.alloc (.cells #[] 46)) := (Below.refl _ _).alloc (Nat.le_refl _) _
  have h0 : (W.alloc (.cells #[] 46)).ownsRow W.heap.size 46 7 (.slice (some ⟨W.heap.size, 0, none⟩) 0 0) 0 [] := by
    have := World.ownsRow_lit (base := W.heap.size) (e := 46) (size := 7) W #[] 0 (Nat.le_refl _) (by simp [maxLen]) rfl
    simpa using this
  refine app_list hgd s x ho W.heap.size _ 0 [] (rowCells VS.enc ls) A ls.length c hs hx (rowCells_length VS.enc5 ls) (rowCells_one' ls) h0 (hr.below hb1) (by omega) (by simp) ?_
  intro v1 w1 own1 hb2 _
  rw [List.nil_append, Nat.zero_add] at own1
  obtain ⟨A1, c1, rfl⟩ := cut_slice own1
  exact h A1 c1 w1 own1 (hb1.trans hb2)
set_option maxRecDepth 100000 in
/-- append([]byte{}, row...): bytes of one's own. -/
theorem copy_bytes {ops : Array Oper} {rest : List Oper} {o : Oper} {a : Act} {Q : Exit → Act → World → Prop} {W : World} (hgd : o.guard = none) (s x : Operand)
    (ho : o.op = .call { callee := .builtin .append, args := #[s, x], argTypes := #[24, 24] }) (A : Option Addr) (c n : Nat) (xs : List Int) (hs : a.eval s = .slice (some ⟨W.heap.size, 0, none⟩) 0 0) (hx : a.eval x = .slice A n c) (hn : n = xs.length)
    (hr : Row W A (nums8 xs)) (hl : xs.length ≤ 1099511627776)
    (h : ∀ A1 c1 w1, OwnB w1 W.heap.size (.slice A1 n c1) xs → Below W.heap.size W w1 → wpList Tryd.prog ops Q rest (a.put o.dst (.slice A1 n c1)) w1) :
    wpList Tryd.prog ops Q (o :: rest) a (W.alloc (.cells #[] 5)) := by
  subst hn
  have hb1 : Below W.heap.size W (W.alloc (.cells #[] 5)) := (Below.refl _ _).alloc (Nat.le_refl _) _
  have h0 : (W.alloc (.cells #[] 5)).ownsRow W.heap.size 5 1 (.slice (some ⟨W.heap.size, 0, none⟩) 0 0) ([] : List Int).length (nums8 []) := by
    have := World.ownsRow_lit (base := W.heap.size) (e := 5) (size := 1) W #[] 0 (Nat.le_refl _) (by simp [maxLen]) rfl
    simpa [nums8] using this
  refine app_row hgd s x ho W.heap.size _ [] xs A c xs.length hs hx rfl h0 (hr.below hb1) (by simp; omega) (by simp) ?_
  intro v1 w1 own1 hb2 _
  rw [List.nil_append] at own1
  obtain ⟨A1, c1, rfl⟩ := cut_slice own1
  exact h A1 c1 w1 own1 (hb1.trans hb2)
/-- Node after node is another one. -/
def fill (g : Nat → LT VS) (n : Nat) : List (LT VS) := (List.range n).map g
theorem fill_len (g : Nat → LT VS) (n : Nat) : (fill g n).length = n := by simp [fill]
theorem fill_step (g : Nat → LT VS) (k : Nat) (ls : List (LT VS)) (h : k < ls.length) : (fill g k ++ ls.drop k).set k (g k) = fill g (k + 1) ++ ls.drop (k + 1) := by
  rw [List.set_append, if_neg (by rw [fill_len]; omega), fill_len, Nat.sub_self, List.drop_eq_getElem_cons h, List.set_cons_zero, fill, fill, List.range_succ, List.map_append, List.append_assoc]
  rfl
theorem fill_cut (g : Nat → LT VS) (k : Nat) (ls : List (LT VS)) (h : k ≤ ls.length) : (fill g k ++ ls.drop k).length = ls.length := by
  rw [List.length_append, fill_len, List.length_drop]
  omega
theorem lfN_fit (k n : Int) (h1 : -9223372036854775808 ≤ n) (h2 : n ≤ 9223372036854775807) : VS.fit (lfN k n).s [] := ⟨by show 0 < _; omega, by show 0 < _; omega, by show 0 < _; omega, fun x hx => by simp at hx, h1, h2⟩
/-- A row of bare nodes is read. -/
theorem good_fill {w : World} {A : Option Addr} {g : Nat → LT VS} {n : Nat} (h : Row w A (rowCells VS.enc (fill g n))) (hn : n ≤ 1099511627776) (hg : ∀ i, i < n → (g i).text = [] ∧ (g i).parts = [] ∧ VS.fit (g i).s []) : Good w A (fill g n) (TT.maps VS.ps (LT.pures (fill g n))) ∧ TT.wts (TT.maps VS.ps (LT.pures (fill g n))) = n := by
  have hm : ∀ p ∈ fill g n, p.text = [] ∧ p.parts = [] ∧ VS.fit p.s [] := by
    intro p hp
    obtain ⟨i, hi, rfl⟩ := List.mem_map.1 hp
    exact hg i (List.mem_range.1 hi)
  refine ⟨⟨⟨h, fun p hp => ?_, by rw [fill_len]; omega⟩, rfl, ?_⟩, ?_⟩
  · obtain ⟨h1, h2, _⟩ := hm p hp
    refine .mk ?_ ?_ ?_ ?_ ?_ ?_
    · rw [h1]; exact Nat.zero_le _
    · rw [h1]; exact .inl rfl
    · rw [h2]; exact Nat.zero_le _
    · rw [h2]; exact .inl rfl
    · rw [h1, h2]; exact ⟨Nat.zero_le _, Nat.zero_le _⟩
    · rw [h2]; intro q hq; cases hq
  · refine alls_of' _ fun p hp => ?_
    rw [LT.pures_map] at hp
    obtain ⟨l, hl, rfl⟩ := List.mem_map.1 hp
    obtain ⟨h1, h2, h3⟩ := hm l hl
    rw [LT.pure_eq, h1, h2]
    exact ⟨h3, trivial⟩
  · rw [TT.wts_map]
    have : ∀ ls : List (LT VS), (∀ p ∈ ls, p.text = [] ∧ p.parts = [] ∧ VS.fit p.s []) → TT.wts (LT.pures ls) = ls.length := by
      intro ls
      induction ls with
      | nil => intro _; rfl
      | cons l ls ih =>
        intro h
        obtain ⟨h1, h2, _⟩ := h l (by simp)
        rw [LT.pures, TT.wts, ih fun p hp => h p (by simp [hp]), LT.pure_eq, h1, h2, List.length_cons, TT.wt, LT.pures, TT.wts]
        simp
        omega
    rw [this _ hm, fill_len]
/-- Decode of any bytes: it answers. -/
theorem dec_any (w : World) (A : Option Addr) (xs : List Int) (c n : Nat) (hn : n = xs.length) (hat : Row w A (nums8 xs)) (hx : Byt xs) (hcap : xs.length ≤ c) (hm : xs.length ≤ 1099511627776) :
    Calls Tryd.prog 25 #[.slice A n c] w fun e w' => ∃ (h : Hdr) (ls : List (LT VS)) (er : Int), e = .returned (.tuple #[.slice h.A ls.length h.cap, .int .i64 er]) ∧ Below w.heap.size w w' := by
  subst hn
  refine (decode_calls (2 * xs.length + 1) w A xs c hat hx hcap hm (Nat.le_refl _)).mono fun e w' h => ?_
  unfold DecPost at h
  obtain ⟨hb, h⟩ := h
  cases hd : decS (2 * xs.length + 1) xs with
  | err er =>
    rw [hd] at h
    exact ⟨⟨none, 0⟩, [], er, h.2, hb⟩
  | ok ps =>
    rw [hd] at h
    obtain ⟨h1, ls, he, _⟩ := h
    exact ⟨h1, ls, 0, he, hb⟩
/-- Ones are read as nones. -/
theorem decS_ones : ∀ (n f : Nat), 2 * n + 1 ≤ f → decS f (List.replicate n 1) = .ok (List.replicate n (.mk (.of 1) [] []))
  | 0, f, h => by
    obtain ⟨g, rfl⟩ : ∃ g, f = g + 1 := ⟨f - 1, by omega⟩
    rfl
  | n + 1, f, h => by
    obtain ⟨g, rfl⟩ : ∃ g, f = g + 1 + 1 := ⟨f - 2, by omega⟩
    have ih := decS_ones n (g + 1) (by omega)
    have ht : takeS (g + 1) (1 :: List.replicate n 1) 0 = .ok (.mk (.of 1) [] [], List.replicate n 1) := by
      rw [takeS.eq_def]
      exact if_pos rfl
    rw [List.replicate_succ, decS, ht]
    simp only [ih]
    rfl
/-- Decode of ones. -/
theorem dec_ones (w : World) (A : Option Addr) (n c : Nat) (hat : Row w A (nums8 (List.replicate n 1))) (hcap : n ≤ c) (hm : n ≤ 1099511627776) :
    Calls Tryd.prog 25 #[.slice A n c] w fun e w' => ∃ (B : Option Addr) (d : Nat) (ls : List (LT VS)), e = .returned (.tuple #[.slice B n d, .int .i64 0]) ∧ Row w' B (rowCells VS.enc ls) ∧ ls.length = n ∧ (∀ l ∈ ls, l.s.kind = 1) ∧ Below w.heap.size w w' := by
  have hl : (List.replicate n (1 : Int)).length = n := List.length_replicate
  have hx : Byt (List.replicate n (1 : Int)) := fun x hx => by
    rw [List.eq_of_mem_replicate hx]
    omega
  have h := decode_calls (2 * n + 1) w A (List.replicate n 1) c hat hx (by rw [hl]; exact hcap) (by rw [hl]; exact hm) (by rw [hl]; exact Nat.le_refl _)
  rw [hl] at h
  refine h.mono fun e w' h => ?_
  unfold DecPost at h
  rw [decS_ones n _ (Nat.le_refl _)] at h
  obtain ⟨hb, h1, ls, rfl, hp, ho, _⟩ := h
  have hn : ls.length = n := by
    have := congrArg List.length hp
    rwa [LT.pures_length, TT.maps_length, List.length_replicate] at this
  refine ⟨h1.A, h1.cap, ls, by rw [hn], ho.rd.1.row, hn, fun l hl => ?_, hb⟩
  have : l.pure ∈ TT.maps PS.ans (List.replicate n (TT.mk (PS.of 1) [] [])) := by
    rw [← hp, LT.pures_map]
    exact List.mem_map_of_mem hl
  rw [TT.maps_map] at this
  obtain ⟨p, hp, he⟩ := List.mem_map.1 this
  rw [List.eq_of_mem_replicate hp] at he
  rw [← LT.pure_s, ← he]
  rfl
end Go.Proofs.YtplfmpcoojkjlaaDoor
