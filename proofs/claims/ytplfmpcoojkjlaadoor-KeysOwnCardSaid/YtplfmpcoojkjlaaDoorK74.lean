/- The walk of parted; leaves, and what is stored of them. -/
import Derived.Test.YtplfmpcoojkjlaaDoorK73
import Derived.Test.YtplfmpcoojkjlaaDoorK54
import Derived.Test.YtplfmpcoojkjlaaDoorK20
namespace Go.Proofs.YtplfmpcoojkjlaaDoor
open Go.RowKit Go.Proofs.YtplfmpcoojkjlaaDoorW.PrintWords
/-- A node of a kind and a number. -/
def lfN (k n : Int) : LT VS := .mk ⟨k, false, n, 0, 0, 0⟩ ⟨none, 0⟩ [] ⟨none, 0⟩ []
/-- A row of nodes of the call's own. -/
def OwnN (w : World) (base : Nat) (v : Value) (ls : List (LT VS)) : Prop := w.ownsRow base 46 7 v ls.length (rowCells VS.enc ls)
theorem own_first {w : World} {base size m n c : Nat} {e : TypeId} {A : Option Addr} {xs : List Value} (h : w.ownsRow base e size (.slice A n c) m xs) : (A = none ∧ m = 0) ∨ ∃ g, A = some ⟨g, 0, none⟩ ∧ g < w.heap.size ∧ base ≤ g ∧ n = m := by
  rcases h.2 with ⟨h, h2⟩ | ⟨g, cap, cur, he, hg, hh, _⟩
  · injection h with h
    exact .inl ⟨h, h2⟩
  · injection he with he h3
    exact .inr ⟨g, he, (Array.getElem?_eq_some_iff.1 hh).1, hg, h3⟩
theorem OwnN.view {w : World} {base n c : Nat} {A : Option Addr} {ls : List (LT VS)} (h : OwnN w base (.slice A n c) ls) : Row w A (rowCells VS.enc ls) ∧ n = ls.length := by
  have hn : n = ls.length := by
    rcases h.2 with ⟨h1, h2⟩ | ⟨g, cap, cur, he, _⟩
    · injection h1 with _ h1
      omega
    · injection he
  subst hn
  exact ⟨(own_row h).2.1, rfl⟩
theorem OwnN.prefix_row {w : World} {base n c : Nat} {A B : Option Addr} {xs zs : List (LT VS)} (h : OwnN w base (.slice A n c) (xs ++ zs)) (hB : B = none ∨ ∃ g, B = some ⟨g, 0, none⟩) (hAB : A.map (·.block) = B.map (·.block)) (hne : B = none → xs = []) : Row w B (rowCells VS.enc xs) := by
  rcases hB with rfl | ⟨g, rfl⟩
  · rw [hne rfl]
    exact .inl rfl
  · rcases own_first h with ⟨rfl, _⟩ | ⟨g', rfl, _⟩
    · simp at hAB
    · simp only [Option.map_some, Option.some.injEq] at hAB
      subst hAB
      have := h.view.1
      rw [rowCells_append] at this
      exact this.mono
/-- Seven stores put one node. -/
theorem rowCells_put (l : LT VS) (a b c d e f g : Value) (hl : l.cells VS.enc = [a, b, c, d, e, f, g]) : ∀ (ls : List (LT VS)) (k : Nat), k < ls.length →
    (((((((rowCells VS.enc ls).set (k * 7) a).set (k * 7 + 1) b).set (k * 7 + 2) c).set (k * 7 + 3) d).set (k * 7 + 4) e).set (k * 7 + 5) f).set (k * 7 + 6) g = rowCells VS.enc (ls.set k l)
  | [], k, h => absurd h (by simp)
  | x :: ls, 0, _ => by
    obtain ⟨s, th, t, ph, ps⟩ := x
    simp only [rowCells, List.flatMap_cons, List.set_cons_zero, hl]
    rfl
  | x :: ls, k + 1, h => by
    have ih := rowCells_put l a b c d e f g hl ls k (by simpa using h)
    simp only [rowCells, List.flatMap_cons, List.set_cons_succ] at ih ⊢
    have h7 := LT.cells_length VS.enc5 x
    have hs : ∀ (cs ds : List Value) (j : Nat) (v : Value), cs.length = 7 → (cs ++ ds).set ((k + 1) * 7 + j) v = cs ++ ds.set (k * 7 + j) v := fun cs ds j v hc => by
      rw [List.set_append, if_neg (by omega), hc, show (k + 1) * 7 + j - 7 = k * 7 + j from by omega]
    have h0 := hs (x.cells VS.enc) (List.flatMap (LT.cells VS.enc) ls) 0 a h7
    simp only [Nat.add_zero] at h0
    rw [h0, hs _ _ _ _ h7, hs _ _ _ _ h7, hs _ _ _ _ h7, hs _ _ _ _ h7, hs _ _ _ _ h7, hs _ _ _ _ h7, ih]
set_option maxRecDepth 100000 in
/-- A node is stored into a row of one's own. -/
theorem store_node {ops : Array Oper} {rest : List Oper} {o : Oper} {a : Act} {Q : Exit → Act → World → Prop} {W : World} (hN : o.dst = none) (hgd : o.guard = none) (p x : Operand) (ho : o.op = .store 46 p x)
    {base g c : Nat} {ls : List (LT VS)} (k : Nat) (l : LT VS) (haddr : a.eval p = .pointer (some ⟨g, k * 7, none⟩)) (hx : a.eval x = .agg (l.cells VS.enc).toArray) (own : OwnN W base (.slice (some ⟨g, 0, none⟩) ls.length c) ls) (hk : k < ls.length)
    (h : ∀ w1, OwnN w1 base (.slice (some ⟨g, 0, none⟩) ls.length c) (ls.set k l) → Below base W w1 → (∀ b, b ≠ g → w1.heap[b]? = W.heap[b]?) → wpList Tryd.prog ops Q rest a w1) : wpList Tryd.prog ops Q (o :: rest) a W := by
  have hfar : ∀ b, b ≠ g → (W.setCells g (k * 7) (l.cells VS.enc)).heap[b]? = W.heap[b]? := fun b hb => setCells_far _ _ _ hb
  have hbg : base ≤ g := own_base (show World.ownsRow W base 46 7 _ _ _ from own) g rfl
  have h7 : (l.cells VS.enc).length = 7 := LT.cells_length VS.enc5 l
  have hown : OwnN (W.setCells g (k * 7) (l.cells VS.enc)) base (.slice (some ⟨g, 0, none⟩) ls.length c) (ls.set k l) ∧ W.grownBy (W.setCells g (k * 7) (l.cells VS.enc)) (some g) := by
    obtain ⟨s, th, t, ph, ps⟩ := l
    unfold OwnN at own ⊢
    rw [List.length_set, ← rowCells_put (.mk s th t ph ps) _ _ _ _ _ _ _ rfl ls k hk]
    simp only [LT.cells, VS.enc, List.cons_append, List.nil_append, World.setCells, Nat.add_assoc, Nat.reduceAdd]
    obtain ⟨o1, g1⟩ := own.stored (k * 7) (.int .i64 s.kind)
    obtain ⟨o2, g2⟩ := o1.stored (k * 7 + 1) (.bool s.b)
    obtain ⟨o3, g3⟩ := o2.stored (k * 7 + 2) (.int .i64 s.n)
    obtain ⟨o4, g4⟩ := o3.stored (k * 7 + 3) (.float .f64 s.real)
    obtain ⟨o5, g5⟩ := o4.stored (k * 7 + 4) (.complex .f64 s.re s.im)
    obtain ⟨o6, g6⟩ := o5.stored (k * 7 + 5) (.slice th.A t.length th.cap)
    obtain ⟨o7, g7⟩ := o6.stored (k * 7 + 6) (.slice ph.A ps.length ph.cap)
    exact ⟨o7, (((((g1.trans g2).trans g3).trans g4).trans g5).trans g6).trans g7⟩
  refine wpList_plain hgd fun K hK => ?_
  have hrun : (Instr.storeAt 46 (.pointer (some ⟨g, k * 7, none⟩)) (.agg (l.cells VS.enc).toArray)).run Tryd.prog W = .ok () (W.setCells g (k * 7) (l.cells VS.enc)) := by
    rcases (show World.ownsRow W base 46 7 _ _ _ from own).2 with ⟨hv, _⟩ | ⟨g', cap', cur, hv, hb, hh, hnc, hcm, hcs, _⟩
    · cases hv
    injection hv with ha _ hc
    injection ha with ha
    injection ha with hg'
    subst hg'; subst hc
    refine run_store_run _ _ _ hh rfl ?_ (by rw [h7]; omega) (fun q hq => nodeV_one l q hq)
    rw [h7]
    obtain ⟨i0, hi, hzz⟩ := Option.map_eq_some_iff.1 infoVal
    simp only [Prod.mk.injEq] at hzz
    rw [hi, Option.map_some, hzz.2.1]
  unfold Oper.wp execOp
  simp only [ho, haddr, hx, Sem.run_bind, Sem.run_pure, Result.andThen_ok, hrun]
  show K (a.put o.dst undef) _
  rw [hN]
  exact hK a _ (h _ hown.1 ⟨hown.2.os, hown.2.tape, hown.2.output, hown.2.size, fun q hq => hfar q (by omega)⟩ hfar)
/-- The first marks, and the second. -/
def mnA (i n : Nat) : List (LT VS) := (List.range n).map fun (k : Nat) => lfN (1000 + (i : Int)) (k : Int)
def mnB (i n : Nat) : List (LT VS) := (List.range n).map fun (k : Nat) => lfN (-1000 - (i : Int)) (k : Int)
theorem mnA_len (i n : Nat) : (mnA i n).length = n := by simp [mnA]
theorem mnB_len (i n : Nat) : (mnB i n).length = n := by simp [mnB]
theorem mnA_step (i k : Nat) (ls : List (LT VS)) (h : k < ls.length) : (mnA i k ++ ls.drop k).set k (lfN (1000 + (i : Int)) (k : Int)) = mnA i (k + 1) ++ ls.drop (k + 1) := by
  rw [List.set_append, if_neg (by rw [mnA_len]; omega), mnA_len, Nat.sub_self, List.drop_eq_getElem_cons h, List.set_cons_zero, mnA, mnA, List.range_succ, List.map_append, List.append_assoc]
  rfl
theorem mnB_step (i k : Nat) : mnB i (k + 1) = mnB i k ++ [lfN (-1000 - (i : Int)) (k : Int)] := by
  rw [mnB, mnB, List.range_succ, List.map_append]
  rfl
theorem row_leaf {w : World} {A : Option Addr} {ls : List (LT VS)} (h : Row w A (rowCells VS.enc ls)) (k : Nat) (a n : Int) (hk : ls[k]? = some (lfN a n)) : ∃ b o, A = some ⟨b, o, none⟩ ∧ b < w.heap.size ∧ w.cell? ⟨b, o + k * 7, none⟩ = some (.int .i64 a) ∧ w.cell? ⟨b, o + k * 7 + 2, none⟩ = some (.int .i64 n) := by
  obtain ⟨hl, he⟩ := List.getElem?_eq_some_iff.1 hk
  rcases h with h | ⟨b, o, e, hb, hc⟩
  · have := congrArg List.length h
    rw [rowCells_length VS.enc5] at this
    simp at this
    omega
  · have h1 : ∀ j v, j < 7 → ((lfN a n).cells VS.enc)[j]? = some v → w.cell? ⟨b, o + (k * 7 + j), none⟩ = some v := fun j v hj hv => hc _ v (by rw [rowCells_get VS.enc5 ls k hl j hj, he]; exact hv)
    exact ⟨b, o, e, hb, h1 0 _ (by omega) rfl, by have := h1 2 _ (by omega) rfl; rwa [← Nat.add_assoc] at this⟩
theorem cell_sl {w : World} {g : Nat} {vs : List SlH} {i : Nat} {s : SlH} (h : Row w (some ⟨g, 0, none⟩) (encs SlH.v vs)) (hs : vs[i]? = some s) : g < w.heap.size ∧ ∀ w' : World, w'.heap[g]? = w.heap[g]? → w'.cell? ⟨g, i, none⟩ = some (.slice s.A s.n s.c) := by
  have hl := (List.getElem?_eq_some_iff.1 hs).1
  rcases h with h | ⟨b, o, e, hb, hc⟩
  · have := congrArg List.length h
    simp [encs] at this
    rw [this] at hl
    simp at hl
  · cases e
    refine ⟨hb, fun w' he => ?_⟩
    have h2 := hc i s.v (by simp [encs, hs])
    rw [Nat.zero_add] at h2
    simp only [World.cell?, he] at h2 ⊢
    exact h2
set_option maxRecDepth 100000 in
/-- append(v, y) of a node, v of the call's own: what is left where it moves. -/
theorem app_nodeL {ops : Array Oper} {rest : List Oper} {o : Oper} {a : Act} {Q : Exit → Act → World → Prop} {W : World} (hgd : o.guard = none) (s x : Operand)
    (ho : o.op = .call { callee := .builtin .append, args := #[s, x], argTypes := #[28, 28] }) (base : Nat) (v : Value) (n : Nat) (acc ys : List Value) (hy : ys.length = 7) (h1 : ∀ u ∈ ys, u.oneCell' = true)
    (hs : a.eval s = v) (hx : a.eval x = .slice (some ⟨W.heap.size, 0, none⟩) 1 1) (own : W.ownsRow base 46 7 v n acc) (hl : n + 1 ≤ 1099511627776) (hbase : base ≤ W.heap.size)
    (h : ∀ v1 w1, w1.ownsRow base 46 7 v1 (n + 1) (acc ++ ys) → Below base W w1 → (∀ q, q < W.heap.size → (some q ≠ v.ownBlock ∨ v1.ownBlock ≠ v.ownBlock) → w1.heap[q]? = W.heap[q]?) → (v1.ownBlock = v.ownBlock ∨ ∃ b, v1.ownBlock = some b ∧ W.heap.size ≤ b) → wpList Tryd.prog ops Q rest (a.put o.dst v1) w1) :
    wpList Tryd.prog ops Q (o :: rest) a (W.alloc (.cells ys.toArray 46)) := by
  obtain ⟨i0, hi, hzz⟩ := Option.map_eq_some_iff.1 infoVal
  simp only [Prod.mk.injEq] at hzz
  obtain ⟨hz0, hz1, hz2⟩ := hzz
  have hsz : (W.alloc (.cells ys.toArray 46)).heap.size = W.heap.size + 1 := by simp
  have own' : (W.alloc (.cells ys.toArray 46)).ownsRow base 46 7 v n acc := own.alloc _
  obtain ⟨v1, w1, hr, h2, h3, h4⟩ := run_append_left (W.alloc (.cells ys.toArray 46)) base 28 o.type 46 i0 _ 7 96 Tryd.underlying28 hi hz0 hz1 hz2 rfl (by omega) v n acc own' ⟨W.heap.size, 0, none⟩ 1 1 ys (by rw [hy]) (by simpa using World.news_of_block (cs := ys.toArray) (t := 46) (fr := (0, 0)) (heap_alloc_new W (.cells ys.toArray 46))) h1 (by simp only [maxLen]; omega) (by omega) (by omega) (by omega)
  refine wpList_plain hgd fun K hK => ?_
  unfold Oper.wp execOp
  simp only [ho, resolve, invoke, builtin, Sem.run_bind, Sem.run_pure, Result.andThen_ok, List.map_toArray, List.map_cons, List.map_nil, hs, hx, hr]
  refine hK _ _ (h v1 w1 h2 (((Below.refl base W).alloc hbase _).grown h3 (by omega) (own_base own)) (fun q hq hne => ?_) ?_)
  · have hq' : (W.alloc (.cells ys.toArray 46)).heap[q]? = W.heap[q]? := heap_alloc_old W _ hq
    rcases h4 with h4 | ⟨h4, h5⟩
    · rcases hne with hne | hne
      · exact (h3.block q (by omega) hne).trans hq'
      · exact absurd h4 hne
    · exact (h5 q (by omega)).trans hq'
  · rcases h4 with h4 | ⟨h4, _⟩
    · exact .inl h4
    · exact .inr ⟨_, h4, by omega⟩
/-- Rows of one's own, f what they hold. -/
def NdInv (w : World) (base : Nat) (vs : List SlH) (f : Nat → List (LT VS)) : Prop := ∀ (j : Nat) (s : SlH), vs[j]? = some s → OwnN w base s.v (f j) ∧ (f j).length = s.n
theorem NdInv.put {w w1 : World} {base : Nat} {vs : List SlH} {f : Nat → List (LT VS)} (h : NdInv w base vs f) (hu : ∀ (j k : Nat) (s t : SlH) (b : Nat), vs[j]? = some s → vs[k]? = some t → s.v.ownBlock = some b → t.v.ownBlock = some b → j = k) {i g n c : Nat} (hs : vs[i]? = some ⟨some ⟨g, 0, none⟩, n, c⟩) (ls : List (LT VS)) (hl : ls.length = n) (ho : OwnN w1 base (.slice (some ⟨g, 0, none⟩) n c) ls) (hf : ∀ b, b ≠ g → w1.heap[b]? = w.heap[b]?) :
    NdInv w1 base vs (fun j => if j = i then ls else f j) := by
  intro j s hj
  by_cases hji : j = i
  · subst hji
    rw [hs] at hj
    cases hj
    simp only [if_true]
    exact ⟨ho, hl⟩
  · simp only [if_neg hji]
    obtain ⟨h1, h2⟩ := h _ _ hj
    refine ⟨ownsRow_move h1 fun b hb => hf b fun e => hji ?_, h2⟩
    subst e
    exact hu j i s _ b hj hs hb rfl
/-- Row j, and what grew out of it. -/
def GrownN (w : World) (N : Nat) (bo : Option Nat) (s G : SlH) (j : Nat) : Prop :=
  G.n = s.n + 20 ∧ Row w s.A (rowCells VS.enc (mnA j s.n)) ∧ Row w G.A (rowCells VS.enc (mnA j s.n ++ mnB j 20)) ∧ ∀ b o, G.A = some ⟨b, o, none⟩ → b < w.heap.size ∧ (s.v.ownBlock = some b ∨ N ≤ b) ∧ bo ≠ some b
theorem GrownN.move {w w' : World} {N : Nat} {bo bo' : Option Nat} {s G : SlH} {j : Nat} (h : GrownN w N bo s G j) (hs : w.heap.size ≤ w'.heap.size) (h1 : ∀ b, s.v.ownBlock = some b → w'.heap[b]? = w.heap[b]?) (h2 : ∀ b, N ≤ b → b < w.heap.size → bo ≠ some b → w'.heap[b]? = w.heap[b]?) (hb : ∀ b, b < w.heap.size → bo ≠ some b → bo' ≠ some b) : GrownN w' N bo' s G j := by
  obtain ⟨a1, a2, a5, a6⟩ := h
  refine ⟨a1, row_move a2 fun b o e => h1 b (by rw [SlH.v, own_blk, e]; rfl), row_move a5 fun b o e => ?_, fun b o e => ?_⟩
  · obtain ⟨c1, c2, c3⟩ := a6 b o e
    rcases c2 with c2 | c2
    · exact h1 b c2
    · exact h2 b c2 c1 c3
  · obtain ⟨c1, c2, c3⟩ := a6 b o e
    exact ⟨Nat.lt_of_lt_of_le c1 hs, c2, hb b c1 c3⟩
set_option maxRecDepth 100000 in
set_option maxHeartbeats 4000000 in
theorem parted_calls (w : World) (gA c : Nat) (vs : List SlH) (base : Nat) (f : Nat → List (LT VS)) (hrow : Row w (some ⟨gA, 0, none⟩) (encs SlH.v vs)) (hlen : vs.length ≤ 1099511627776) (ht : NdInv w base vs f) (hu : Unlike vs gA) (hn : ∀ (j : Nat) (s : SlH), vs[j]? = some s → s.n ≤ 549755813888) (hb : base ≤ w.heap.size) (hga : base ≤ gA) :
    Calls Tryd.prog 31 #[.slice (some ⟨gA, 0, none⟩) vs.length c] w fun e w' => e = .returned (.bool true) ∧ Below base w w' ∧ Others w w' vs := by
  have H0 := Lib.hid (show _ ∧ _ ∧ _ ∧ _ ∧ _ ∧ _ ∧ _ from ⟨hrow, hlen, ht, hu, hn, hb, hga⟩)
  clear hrow hlen ht hu hn hb hga
  go_enter Tryd.func31, Tryd.ntmps31
  go_wp2
  go_loopw [3] (fun vi wr => ∃ (i : Nat) (f : Nat → List (LT VS)), i ≤ vs.length ∧ vi = .int .i64 i ∧ NdInv wr base vs f ∧ (wr.heap[gA]? = w.heap[gA]? ∧ Others w wr vs) ∧ Below base w wr ∧ ∀ (j : Nat) (s : SlH), j < i → vs[j]? = some s → f j = mnA j s.n) (fun vi _ => vs.length - (intOf vi).toNat)
  case atStart => exact ⟨0, f, by omega, rfl, H0.out.2.2.1, ⟨rfl, fun _ _ _ => rfl⟩, Below.refl _ _, fun j s hj => by omega⟩
  case round =>
    obtain ⟨i, f, hi, rfl, ht, hg, hb, hm⟩ := hrel
    have HW := Lib.hid (show _ ∧ _ ∧ _ ∧ _ from ⟨ht, hg, hb, hm⟩)
    clear ht hg hb hm
    by_cases hlt : i < vs.length
    · have hil : (i : Int) < (vs.length : Int) := by omega
      have hil2 : i ≤ 1099511627776 := by have := H0.out.2.1; omega
      obtain ⟨s, hs⟩ : ∃ s, vs[i]? = some s := ⟨_, List.getElem?_eq_getElem hlt⟩
      have HC := Lib.hid (cell_sl H0.out.1 hs).2
      obtain ⟨f0, hf0⟩ : ∃ f0, f0 = f := ⟨_, rfl⟩
      go_wp2
      go_loopw [4] (fun vk wk => ∃ (k : Nat) (f : Nat → List (LT VS)), k ≤ s.n ∧ vk = .int .i64 k ∧ NdInv wk base vs f ∧ (wk.heap[gA]? = w.heap[gA]? ∧ Others w wk vs) ∧ Below base w wk ∧ (∀ (j : Nat) (s : SlH), j < i → vs[j]? = some s → f j = mnA j s.n) ∧ f i = mnA i k ++ (f0 i).drop k) (fun vk _ => s.n - (intOf vk).toNat)
      case atStart => exact ⟨0, f, by omega, rfl, HW.out.1, HW.out.2.1, HW.out.2.2.1, HW.out.2.2.2, by rw [hf0]; rfl⟩
      case round =>
        obtain ⟨k, f, hk, rfl, ht, hg, hb, hm, hmk⟩ := hrel
        have HK := Lib.hid (show _ ∧ _ ∧ _ ∧ _ ∧ _ from ⟨ht, hg, hb, hm, hmk⟩)
        clear ht hg hb hm hmk
        have a1 := HC.out _ HK.out.2.1.1
        have hfl0 : (f0 i).length = s.n := by rw [hf0]; exact (HW.out.1 i s hs).2
        by_cases hkl : k < s.n
        · have hil3 : (k : Int) < (s.n : Int) := by omega
          have hkl2 : k ≤ 549755813888 := by have := H0.out.2.2.2.2.1 i s hs; omega
          obtain ⟨hown, hfl⟩ := HK.out.1 i s hs
          obtain ⟨sA, sn, sc⟩ := s
          simp only at hfl hfl0 hkl hk hil3 a1
          subst hfl
          obtain ⟨rfl, h0⟩ | ⟨g, rfl, hgl, hgb, _⟩ := own_first (show World.ownsRow wr base 46 7 (.slice sA (f i).length sc) _ _ from hown)
          · omega
          have hfz := fun j => World.ownsRow.frozenAt (show World.ownsRow wr base 46 7 (.slice (some ⟨g, 0, none⟩) (f i).length sc) _ _ from hown) j
          have hgA : g ≠ gA := fun e => H0.out.2.2.2.1.1 i _ hs (by rw [← e]; rfl)
          have HS := Lib.hid (show _ ∧ _ ∧ _ ∧ _ ∧ _ from ⟨hs, hgb, hgA, hkl, hfl0⟩)
          clear hfl0
          go_wp2_with (((with_reducible refine gate_store (p := 37) rfl ?_); go_loud (refine store_node rfl rfl (.tmp 37) (.tmp 36) rfl k (lfN (1000 + (i : Int)) (k : Int)) rfl rfl (show OwnN wr base (.slice (some ⟨g, 0, none⟩) (f i).length sc) (f i) from hown) HS.out.2.2.2.1 ?_); intro w3 ho3 hb3 hf3; have H3 := Lib.hid (show _ ∧ _ ∧ _ from ⟨ho3, hb3, hf3⟩); clear ho3 hb3 hf3))
          go_roundw
          case rel =>
            refine ⟨k + 1, fun j => if j = i then (f i).set k (lfN (1000 + (i : Int)) (k : Int)) else f j, by omega, by go_num, HK.out.1.put H0.out.2.2.2.1.2 HS.out.1 _ (List.length_set ..) H3.out.1 H3.out.2.2, ⟨(H3.out.2.2 gA (fun e => HS.out.2.2.1 e.symm)).trans HK.out.2.1.1, fun q h1 h2 => (H3.out.2.2 q (fun e => h2 i _ HS.out.1 (by rw [e]; rfl))).trans (HK.out.2.1.2 q h1 h2)⟩, HK.out.2.2.1.trans H3.out.2.1, fun j s hj hsj => ?_, ?_⟩
            · simp only [if_neg (show ¬ j = i by omega)]
              exact HK.out.2.2.2.1 j s hj hsj
            · simp only [if_true]
              rw [HK.out.2.2.2.2]
              exact mnA_step i k _ (by have h1 := HS.out.2.2.2.1; have h2 := HS.out.2.2.2.2; omega)
          case measure => simp [intOf]; omega
        · obtain rfl : k = s.n := by omega
          go_wp2_with fail
          go_roundw
          case rel =>
            refine ⟨i + 1, f, by omega, by go_num, HK.out.1, HK.out.2.1, HK.out.2.2.1, fun j t hj ht => ?_⟩
            by_cases hji : j = i
            · subst hji
              rw [hs] at ht
              cases ht
              have h := HK.out.2.2.2.2
              rw [List.drop_eq_nil_of_le (by omega), List.append_nil] at h
              exact h
            · exact HK.out.2.2.2.1 j t (by omega) ht
          case measure => simp [intOf]; omega
    · obtain rfl : i = vs.length := by omega
      obtain ⟨w1, hw1⟩ : ∃ w1, w1 = wr := ⟨_, rfl⟩
      subst hw1
      have H1 := Lib.hid (show (∀ (j : Nat) (s : SlH), vs[j]? = some s → OwnN w1 base s.v (mnA j s.n)) ∧ (w1.heap[gA]? = w.heap[gA]? ∧ Others w w1 vs) ∧ Below base w w1 from ⟨fun j s hj => by have h1 := (HW.out.1 j s hj).1; rwa [HW.out.2.2.2 j s (List.getElem?_eq_some_iff.1 hj).1 hj] at h1, HW.out.2.1, HW.out.2.2.1⟩)
      clear HW hlt hi
      go_wp2
      go_loopw [5, 6] (fun vo vi wr => ∃ (i : Nat) (gs : List SlH) (A' : Option Addr) (c' : Nat), i ≤ vs.length ∧ gs.length = i ∧ vi = .int .i64 i ∧ vo = .slice A' i c' ∧ OwnS 28 wr w1.heap.size (.slice A' i c') gs ∧ (wr.heap[gA]? = w.heap[gA]? ∧ Others w wr vs) ∧ Below base w1 wr ∧ w1.heap.size ≤ wr.heap.size ∧ (∀ (j : Nat) (s : SlH), i ≤ j → vs[j]? = some s → OwnN wr base s.v (mnA j s.n)) ∧ (∀ (j : Nat) (s : SlH), j < i → vs[j]? = some s → ∃ G, gs[j]? = some G ∧ GrownN wr w1.heap.size (A'.map (·.block)) s G j)) (fun _ vi _ => vs.length - (intOf vi).toNat)
      case atStart => exact ⟨0, [], none, 0, by omega, rfl, rfl, rfl, OwnS.nil _ _ _, H1.out.2.1, Below.refl _ _, Nat.le_refl _, fun j s _ hj => H1.out.1 j s hj, fun j s hj => by omega⟩
      case round =>
        obtain ⟨i, gs, A', c', hi, hgl, rfl, rfl, ho, hg, hb, hsz, hj1, hj2⟩ := hrel
        have HW := Lib.hid (show _ ∧ _ ∧ _ ∧ _ ∧ _ ∧ _ ∧ _ from ⟨ho, hg, hb, hsz, hj1, hj2, hgl⟩)
        clear ho hg hb hsz hj1 hj2 hgl
        by_cases hlt : i < vs.length
        · have hil : (i : Int) < (vs.length : Int) := by omega
          have hil2 : i ≤ 1099511627776 := by have := H0.out.2.1; omega
          obtain ⟨s, hs⟩ : ∃ s, vs[i]? = some s := ⟨_, List.getElem?_eq_getElem hlt⟩
          have a1 := (cell_sl H0.out.1 hs).2 _ HW.out.2.1.1
          have hown0 := HW.out.2.2.2.2.1 i s (Nat.le_refl _) hs
          obtain ⟨w2, hw2⟩ : ∃ w2, w2 = wr := ⟨_, rfl⟩
          subst hw2
          have HS := Lib.hid (show OwnN w2 base (.slice s.A s.n s.c) (mnA i s.n) from hown0)
          clear hown0
          go_wp2
          go_loopw [7, 8] (fun vg vk wr => ∃ (k : Nat) (Ag : Option Addr) (cg : Nat), k ≤ 20 ∧ vk = .int .i64 k ∧ vg = .slice Ag (s.n + k) cg ∧ OwnN wr base (.slice Ag (s.n + k) cg) (mnA i s.n ++ mnB i k) ∧ Row wr s.A (rowCells VS.enc (mnA i s.n)) ∧ (Ag.map (·.block) = s.A.map (·.block) ∨ ∃ b, Ag.map (·.block) = some b ∧ w2.heap.size ≤ b) ∧ Below base w2 wr ∧ w2.heap.size ≤ wr.heap.size ∧ ∀ q, q < w2.heap.size → some q ≠ s.A.map (·.block) → wr.heap[q]? = w2.heap[q]?) (fun _ vk _ => 20 - (intOf vk).toNat)
          case atStart => exact ⟨0, s.A, s.c, by omega, rfl, rfl, by rw [show mnB i 0 = [] from rfl, List.append_nil]; exact HS.out, HS.out.view.1, .inl rfl, Below.refl _ _, Nat.le_refl _, fun _ _ _ => rfl⟩
          case round =>
            obtain ⟨k, Ag, cg, hk, rfl, rfl, hog, hrs, hblk, hbw, hsz, hq⟩ := hrel
            have HK := Lib.hid (show _ ∧ _ ∧ _ ∧ _ ∧ _ ∧ _ from ⟨hog, hrs, hblk, hbw, hsz, hq⟩)
            clear hog hrs hblk hbw hsz hq
            by_cases hkl : k < 20
            · have hkd : decide ((k : Int) < 20) = true := by simp; omega
              go_wp2_with (((with_reducible refine gate_dst (N := 58) rfl ?_); go_loud (refine app_nodeL rfl (.tmp 52) (.tmp 57) rfl base (.slice Ag (s.n + k) cg) (s.n + k) (rowCells VS.enc (mnA i s.n ++ mnB i k)) ((lfN (-1000 - (i : Int)) (k : Int)).cells VS.enc) rfl (nodeV_one _) rfl rfl (by have h := HK.out.1; unfold OwnN at h; rw [List.length_append, mnA_len, mnB_len] at h; exact h) (by have h3 := H0.out.2.2.2.2.1 i s hs; omega) (Nat.le_trans H0.out.2.2.2.2.2.1 (Nat.le_trans H1.out.2.2.size (Nat.le_trans HW.out.2.2.2.1 HK.out.2.2.2.2.1))) ?_); intro v1 w3 ho3 hb3 hq3 hat3; obtain ⟨A3, c3, hv3⟩ := own_slice ho3; subst hv3; have H3 := Lib.hid (show _ ∧ _ ∧ _ ∧ _ from ⟨ho3, hb3, hq3, hat3⟩); clear ho3 hb3 hq3 hat3))
              go_roundw
              case rel =>
                have hog := HK.out.1
                have ho3 : OwnN w3 base (.slice A3 (s.n + (k + 1)) c3) (mnA i s.n ++ mnB i (k + 1)) := by
                  have h := H3.out.1
                  rw [mnB_step, ← List.append_assoc]
                  unfold OwnN
                  rw [rowCells_append _ (mnA i s.n ++ mnB i k), rowCells_one, List.length_append, List.length_append, mnA_len, mnB_len]
                  exact h
                have hag : ∀ b, Ag.map (·.block) = some b → b < wr.heap.size := by
                  intro b hb
                  rcases own_first hog with ⟨rfl, _⟩ | ⟨g, rfl, hg, _⟩
                  · cases hb
                  · cases hb
                    exact hg
                have hsg : ∀ b, s.A.map (·.block) = some b → b < w2.heap.size := by
                  intro b hb
                  rcases own_first HS.out with ⟨h, _⟩ | ⟨g, h, hg, _⟩
                  · rw [h] at hb
                    cases hb
                  · rw [h] at hb
                    cases hb
                    exact hg
                have hnone : s.A = none → mnA i s.n = [] := by
                  intro h
                  rcases own_first HS.out with ⟨_, h2⟩ | ⟨g, h2, _⟩
                  · exact List.length_eq_zero_iff.1 h2
                  · rw [h] at h2
                    cases h2
                have hfirst : s.A = none ∨ ∃ g, s.A = some ⟨g, 0, none⟩ := by
                  rcases own_first HS.out with ⟨h, _⟩ | ⟨g, h, _⟩
                  · exact .inl h
                  · exact .inr ⟨g, h⟩
                have hat := H3.out.2.2.2
                rw [own_blk, own_blk] at hat
                have hq3 := H3.out.2.2.1
                rw [own_blk, own_blk] at hq3
                have hsz := HK.out.2.2.2.2.1
                refine ⟨k + 1, A3, c3, by omega, by go_num, by first | rfl | (congr 1; omega), ho3, ?_, ?_, HK.out.2.2.2.1.trans H3.out.2.1, Nat.le_trans hsz H3.out.2.1.size, fun q hq hne => ?_⟩
                · rcases HK.out.2.2.1 with hsame | ⟨b, hb, hbge⟩
                  · rcases hat with h | ⟨b', hb', hge⟩
                    · exact ho3.prefix_row hfirst (h.trans hsame) hnone
                    · refine row_move HK.out.2.1 fun b o e => hq3 b (Nat.lt_of_lt_of_le (hsg b (by rw [e]; rfl)) hsz) (.inr fun h => ?_)
                      have := hag b' (by rw [← h]; exact hb')
                      omega
                  · refine row_move HK.out.2.1 fun b0 o e => hq3 b0 (Nat.lt_of_lt_of_le (hsg b0 (by rw [e]; rfl)) hsz) (.inl fun h => ?_)
                    have h1 := hsg b0 (by rw [e]; rfl)
                    rw [hb] at h
                    cases h
                    omega
                · rcases hat with h | ⟨b', hb', hge⟩
                  · rw [h]
                    exact HK.out.2.2.1
                  · exact .inr ⟨b', hb', Nat.le_trans hsz hge⟩
                · refine (hq3 q (Nat.lt_of_lt_of_le hq hsz) (.inl fun h => ?_)).trans (HK.out.2.2.2.2.2 q hq hne)
                  rcases HK.out.2.2.1 with hsame | ⟨b, hb, hbge⟩
                  · exact hne (h.trans hsame)
                  · rw [hb] at h
                    cases h
                    omega
              case measure => simp [intOf]; omega
            · obtain rfl : k = 20 := by omega
              have hlt1 : ∀ (j : Nat) (t : SlH), vs[j]? = some t → ∀ b, t.v.ownBlock = some b → b < w1.heap.size := by
                intro j t ht b hb
                rw [SlH.v, own_blk] at hb
                rcases own_first (show World.ownsRow w1 base 46 7 (.slice t.A t.n t.c) _ _ from H1.out.1 j t ht) with ⟨h, _⟩ | ⟨g, h, hg, _⟩
                · rw [h] at hb
                  cases hb
                · rw [h] at hb
                  cases hb
                  exact hg
              have hsb : ∀ b, s.A.map (·.block) = some b → b < w1.heap.size := fun b hb => hlt1 i s hs b (by rw [SlH.v, own_blk]; exact hb)
              have hA' : ∀ b, A'.map (·.block) = some b → w1.heap.size ≤ b ∧ b < w2.heap.size := by
                intro b hb
                rcases HW.out.1.first with h | ⟨g, h, hg, hg2⟩
                · rw [h] at hb
                  cases hb
                · rw [h] at hb
                  cases hb
                  exact ⟨hg2, hg⟩
              have hog : OwnS 28 wr w1.heap.size (.slice A' i c') gs := HW.out.1.far fun g hg => HK.out.2.2.2.2.2 g (hA' g hg).2 fun h => by
                have h1 := hsb g h.symm
                have h2 := (hA' g hg).1
                omega
              have HB := Lib.hid (show _ ∧ _ ∧ _ ∧ _ from ⟨hsb, hA', hog, hlt1⟩)
              clear hsb hA' hog hlt1
              go_wp2_with (((with_reducible refine gate_dst (N := 62) rfl ?_); go_loud (refine print_append_of (w0 := wr) SlH.v w1.heap.size rfl (.tmp 59) (.tmp 61) 60 28 _ 24 rfl Tryd.underlying60 info28 rfl (by decide) (.slice A' i c') gs (SlH.mk Ag (s.n + 20) cg) rfl rfl rfl HB.out.2.2.1 (Below.refl _ _) (Nat.le_trans HW.out.2.2.2.1 HK.out.2.2.2.2.1) (by have := HW.out.2.2.2.2.2.2; omega) ?_); intro v4 w4 ho4 hb4 hx4 hy4; obtain ⟨A4, c4, hv4⟩ : ∃ A4 c4, v4 = .slice A4 (i + 1) c4 := by { obtain ⟨A4, c4, h⟩ := own_slice ho4; exact ⟨A4, c4, by rw [h, List.length_append, HW.out.2.2.2.2.2.2]; rfl⟩ }; subst hv4; have H4 := Lib.hid (show _ ∧ _ ∧ _ ∧ _ from ⟨ho4, hb4, hx4, hy4⟩); clear ho4 hb4 hx4 hy4))
              go_roundw
              case rel =>
                have hx4 := H4.out.2.2.1
                have hy4 := H4.out.2.2.2
                rw [own_blk] at hx4 hy4
                rw [own_blk] at hy4
                have hsz2 := HK.out.2.2.2.2.1
                have hN := HW.out.2.2.2.1
                have hmv : ∀ q, q < w2.heap.size → some q ≠ s.A.map (·.block) → some q ≠ A'.map (·.block) → w4.heap[q]? = w2.heap[q]? := fun q hq h1 h2 => (hx4.block q (by omega) h2).trans (HK.out.2.2.2.2.2 q hq h1)
                have hgl := HW.out.2.2.2.2.2.2
                have hga1 : gA < w1.heap.size := Nat.lt_of_lt_of_le (cell_sl H0.out.1 hs).1 H1.out.2.2.size
                have hsA : s.v.ownBlock = s.A.map (·.block) := own_blk _ _ _
                have hlt1 := HB.out.2.2.2
                refine ⟨i + 1, gs ++ [SlH.mk Ag (s.n + 20) cg], A4, c4, by omega, by rw [List.length_append, hgl]; rfl, by go_num, rfl, ?_, ?_, ?_, ?_, fun j t hj ht => ?_, fun j t hj ht => ?_⟩
                · have h := H4.out.1
                  exact h
                · refine ⟨?_, fun q h1 h2 => ?_⟩
                  · refine (hmv gA (by omega) (fun h => H0.out.2.2.2.1.1 i s hs (hsA.trans h.symm)) (fun h => ?_)).trans HW.out.2.1.1
                    have := (HB.out.2.1 gA h.symm).1
                    omega
                  · have hs1 : w.heap.size ≤ w1.heap.size := H1.out.2.2.size
                    refine (hmv q (by omega) (fun h => h2 i s hs (hsA.trans h.symm)) (fun h => ?_)).trans (HW.out.2.1.2 q h1 h2)
                    have := (HB.out.2.1 q h.symm).1
                    omega
                · exact (HW.out.2.2.1.trans HK.out.2.2.2.1).trans (H4.out.2.1.mono (Nat.le_trans H0.out.2.2.2.2.2.1 H1.out.2.2.size))
                · have := H4.out.2.1.size
                  omega
                · refine ownsRow_move (HW.out.2.2.2.2.1 j t (by omega) ht) fun b hb => ?_
                  have hb1 := hlt1 j t ht b hb
                  refine hmv b (by omega) (fun h => ?_) (fun h => ?_)
                  · have := H0.out.2.2.2.1.2 j i t s b ht hs hb (hsA.trans h.symm)
                    omega
                  · have := (HB.out.2.1 b h.symm).1
                    omega
                · by_cases hji : j = i
                  · subst hji
                    rw [hs] at ht
                    cases ht
                    refine ⟨SlH.mk Ag (s.n + 20) cg, by rw [List.getElem?_append_right (by omega), hgl]; simp, rfl, ?_, ?_⟩
                    · refine row_move HK.out.2.1 fun b o e => hx4.block b ?_ ?_
                      · have := HB.out.1 b (by rw [e]; rfl)
                        omega
                      · intro h
                        have h1 := (HB.out.2.1 b h.symm).1
                        have h2 := HB.out.1 b (by rw [e]; rfl)
                        omega
                    · have hag : ∀ b, Ag.map (·.block) = some b → b < wr.heap.size ∧ (s.A.map (·.block) = some b ∨ w2.heap.size ≤ b) ∧ A'.map (·.block) ≠ some b := by
                        intro b hb
                        have h0 : b < wr.heap.size := by
                          rcases own_first HK.out.1 with ⟨h, _⟩ | ⟨g, h, hg, _⟩
                          · rw [h] at hb
                            cases hb
                          · rw [h] at hb
                            cases hb
                            exact hg
                        rcases HK.out.2.2.1 with h | ⟨b', h, hge⟩
                        · refine ⟨h0, .inl (h.symm.trans hb), fun h' => ?_⟩
                          have h1 := (HB.out.2.1 b h').1
                          have h2 := HB.out.1 b (h.symm.trans hb)
                          omega
                        · rw [h] at hb
                          cases hb
                          exact ⟨h0, .inr hge, fun h' => by have := (HB.out.2.1 _ h').2; omega⟩
                      refine ⟨?_, fun b o e => ?_⟩
                      · exact row_move HK.out.1.view.1 fun b o e => hx4.block b (hag b (by rw [show Ag = _ from e]; rfl)).1 fun h => (hag b (by rw [show Ag = _ from e]; rfl)).2.2 h.symm
                      · obtain ⟨k1, k2, k3⟩ := hag b (by rw [show Ag = _ from e]; rfl)
                        refine ⟨Nat.lt_of_lt_of_le k1 H4.out.2.1.size, ?_, fun h => ?_⟩
                        · rcases k2 with k2 | k2
                          · exact .inl (hsA.trans k2)
                          · exact .inr (by omega)
                        · rcases hy4 with h' | ⟨b', h', hge⟩
                          · exact k3 (h'.symm.trans h)
                          · rw [h'] at h
                            cases h
                            omega
                  · obtain ⟨G, hG, hgr⟩ := HW.out.2.2.2.2.2.1 j t (by omega) ht
                    refine ⟨G, by rw [List.getElem?_append_left (by omega)]; exact hG, hgr.move (by have := H4.out.2.1.size; omega) (fun b hb => ?_) (fun b h1 h2 h3 => ?_) (fun b h2 h3 h => ?_)⟩
                    · have hb1 := hlt1 j t ht b hb
                      refine hmv b (by omega) (fun h => ?_) (fun h => ?_)
                      · exact hji (H0.out.2.2.2.1.2 j i t s b ht hs hb (hsA.trans h.symm))
                      · have := (HB.out.2.1 b h.symm).1
                        omega
                    · exact hmv b h2 (fun h => by have := HB.out.1 b h.symm; omega) (fun h => h3 h.symm)
                    · rcases hy4 with h' | ⟨b', h', hge⟩
                      · exact h3 (h'.symm.trans h)
                      · rw [h'] at h
                        cases h
                        omega
              case measure => simp [intOf]; omega
        · obtain rfl : i = vs.length := by omega
          obtain ⟨w2, hw2⟩ : ∃ w2, w2 = wr := ⟨_, rfl⟩
          subst hw2
          have H2 := HW
          clear HW hlt hi
          have HBB := Lib.hid (show Below base w w2 from H1.out.2.2.trans H2.out.2.2.1)
          go_wp2
          go_loopw [9] (fun vi wr => ∃ i : Nat, i ≤ vs.length ∧ vi = .int .i64 i ∧ Below w2.heap.size w2 wr) (fun vi _ => vs.length - (intOf vi).toNat)
          case atStart => exact ⟨0, by omega, rfl, Below.refl _ _⟩
          case round =>
            obtain ⟨i, hi, rfl, hb⟩ := hrel
            have HW := Lib.hid hb
            clear hb
            by_cases hlt : i < vs.length
            · have hil : (i : Int) < (vs.length : Int) := by omega
              have hil2 : i ≤ 1099511627776 := by have := H0.out.2.1; omega
              obtain ⟨s, hs⟩ : ∃ s, vs[i]? = some s := ⟨_, List.getElem?_eq_getElem hlt⟩
              obtain ⟨G, hG, hgr⟩ := H2.out.2.2.2.2.2.1 i s hlt hs
              obtain ⟨hga, hcl⟩ := cell_sl H0.out.1 hs
              have hrA : Row w2 A' (encs SlH.v gs) := H2.out.1.row H2.out.2.2.2.2.2.2.symm
              obtain ⟨bA, oA, rfl, hbA, hcA⟩ : ∃ b o, A' = some ⟨b, o, none⟩ ∧ b < w2.heap.size ∧ ∀ w', Below w2.heap.size w2 w' → w'.cell? ⟨b, o + i, none⟩ = some (.slice G.A G.n G.c) := by
                rcases hrA with h | ⟨b, o, e, hb, hc⟩
                · have := congrArg List.length h
                  simp [encs, H2.out.2.2.2.2.2.2] at this
                  rw [this] at hlt
                  simp at hlt
                · exact ⟨b, o, e, hb, fun w' hw => (hw.cell (p := ⟨b, _, none⟩) hb).trans (hc i G.v (by simp [encs, hG]))⟩
              have hall : ∀ w', Below w2.heap.size w2 w' → w'.cell? ⟨gA, i, none⟩ = some (.slice s.A s.n s.c) := fun w' hw => hcl w' ((hw.block gA (Nat.lt_of_lt_of_le hga (by have := HBB.out.size; exact this))).trans H2.out.2.1.1)
              have HC := Lib.hid (show _ ∧ _ ∧ _ from ⟨hall, hcA, hgr⟩)
              clear hall hcA hgr hga hrA hG hcl
              have a1 := HC.out.1 _ HW.out
              go_wp2
              go_loopw [11] (fun vk wr => ∃ k : Nat, k ≤ s.n ∧ vk = .int .i64 k ∧ Below w2.heap.size w2 wr) (fun vk _ => s.n - (intOf vk).toNat)
              case atStart => exact ⟨0, by omega, rfl, HW.out⟩
              case round =>
                obtain ⟨k, hk, rfl, hb⟩ := hrel
                have HK := Lib.hid hb
                clear hb
                by_cases hkl : k < s.n
                · have hil3 : (k : Int) < (s.n : Int) := by omega
                  have hkl2 : k ≤ 549755813888 := by have := H0.out.2.2.2.2.1 i s hs; omega
                  have a1 := HC.out.1 _ HK.out
                  obtain ⟨b, o, hA, hb, hc0, hc2⟩ := row_leaf HC.out.2.2.2.1 k (1000 + (i : Int)) (k : Int) (by simp [mnA, hkl])
                  have hc0 := (HK.out.cell (p := ⟨b, _, none⟩) hb).trans hc0
                  have hc2 := (HK.out.cell (p := ⟨b, _, none⟩) hb).trans hc2
                  rw [hA] at a1
                  go_wp2_with fail
                  go_roundw
                  case rel => exact ⟨k + 1, by omega, by go_num, HK.out⟩
                  case measure => simp [intOf]; omega
                · obtain rfl : k = s.n := by omega
                  go_wp2
                  go_loopw [12] (fun vk wr => ∃ k : Nat, k ≤ 20 ∧ vk = .int .i64 k ∧ Below w2.heap.size w2 wr) (fun vk _ => 20 - (intOf vk).toNat)
                  case atStart => exact ⟨0, by omega, rfl, HK.out⟩
                  case round =>
                    obtain ⟨k, hk, rfl, hb⟩ := hrel
                    have HK := Lib.hid hb
                    clear hb
                    by_cases hkl : k < 20
                    · have hsn : s.n ≤ 549755813888 := H0.out.2.2.2.2.1 i s hs
                      have a1 := HC.out.2.1 _ HK.out
                      obtain ⟨b, o, hA, hb, hc0, hc2⟩ := row_leaf HC.out.2.2.2.2.1 (s.n + k) (-1000 - (i : Int)) (k : Int) (by rw [List.getElem?_append_right (by rw [mnA_len]; omega), mnA_len]; simp [mnB, hkl])
                      have hc0 := (HK.out.cell (p := ⟨b, _, none⟩) hb).trans hc0
                      have hc2 := (HK.out.cell (p := ⟨b, _, none⟩) hb).trans hc2
                      have hn := HC.out.2.2.1
                      rw [hA, hn] at a1
                      have hkk : decide ((k : Int) < 20) = true := by simp; omega
                      clear hn
                      go_wp2_with fail
                      go_roundw
                      case rel => exact ⟨k + 1, by omega, by go_num, HK.out⟩
                      case measure => simp [intOf]; omega
                    · obtain rfl : k = 20 := by omega
                      go_wp2
                      go_roundw
                      case rel => exact ⟨i + 1, by omega, by go_num, HK.out⟩
                      case measure => simp [intOf]; omega
            · go_wp2
              go_ret
              exact ⟨rfl, HBB.out.trans (HW.out.mono (Nat.le_trans H0.out.2.2.2.2.2.1 HBB.out.size)), fun q h1 h2 => (HW.out.block q (Nat.lt_of_lt_of_le h1 HBB.out.size)).trans (H2.out.2.1.2 q h1 h2)⟩
end Go.Proofs.YtplfmpcoojkjlaaDoor
