/- The walk of twin. -/
import Derived.Test.YtplfmpcoojkjlaaDoorK18
namespace Go.Proofs.YtplfmpcoojkjlaaDoor
open Go.RowKit Go.Proofs.YtplfmpcoojkjlaaDoorW.PrintWords
set_option maxRecDepth 100000 in
/-- append(v, row...) of nodes, wherever the row lies. -/
theorem app_list {ops : Array Oper} {rest : List Oper} {o : Oper} {a : Act} {Q : Exit → Act → World → Prop} {W : World} (hgd : o.guard = none) (s x : Operand)
    (ho : o.op = .call { callee := .builtin .append, args := #[s, x], argTypes := #[28, 28] }) (base : Nat) (v : Value) (n : Nat) (xs ys : List Value) (A : Option Addr) (m c : Nat) (hs : a.eval s = v) (hx : a.eval x = .slice A m c) (hl : ys.length = m * 7) (h1 : ∀ u ∈ ys, u.oneCell' = true)
    (own : W.ownsRow base 46 7 v n xs) (at_ : Row W A ys) (hb : n + m ≤ 1099511627776) (hbase : base ≤ W.heap.size)
    (h : ∀ v1 w1, w1.ownsRow base 46 7 v1 (n + m) (xs ++ ys) → Below base W w1 → (v1.ownBlock = v.ownBlock ∨ v1.ownBlock = some W.heap.size) → wpList Tryd.prog ops Q rest (a.put o.dst v1) w1) :
    wpList Tryd.prog ops Q (o :: rest) a W := by
  obtain ⟨i0, hi, hzz⟩ := Option.map_eq_some_iff.1 infoVal
  simp only [Prod.mk.injEq] at hzz
  obtain ⟨hz0, hz1, hz2⟩ := hzz
  have ht := Tryd.underlying28
  have hrun : ∃ v1 w1, (Builtin.append_ #[28, 28] o.type #[v, .slice A m c]).run Tryd.prog W = .ok v1 w1 ∧ w1.ownsRow base 46 7 v1 (n + m) (xs ++ ys) ∧ W.grownBy w1 v.ownBlock ∧ (v1.ownBlock = v.ownBlock ∨ v1.ownBlock = some W.heap.size) := by
    rcases A with _ | ad
    · have h0 : ys = [] := by
        rcases at_ with h0 | ⟨b, o, h0, _⟩
        · exact h0
        · cases h0
      subst h0
      obtain rfl : m = 0 := by simp at hl; omega
      refine ⟨v, W, ?_, by simpa using own, World.grownBy.refl W _, .inl rfl⟩
      rcases own.2 with ⟨rfl, hn⟩ | ⟨g, cap, cur, rfl, _, _, hnc, _⟩
      · simp [Builtin.append_, run_underlying ht, sizeOf, typeInfo, hi, Builtin.lenOf, Builtin.firstCells]
      · simp [Builtin.append_, run_underlying ht, sizeOf, typeInfo, hi, Builtin.lenOf, Builtin.firstCells, hnc, storeCells]
    · have hcells : ∀ j u, ys[j]? = some u → W.cell? (ad.add j) = some u := by
        intro j u hu
        rcases at_ with h0 | ⟨b, o, h0, _, hc⟩
        · subst h0; simp at hu
        · injection h0 with h0
          subst h0
          rw [add_plain0]
          exact hc j u hu
      obtain ⟨v1, w1, hr, h2, h3, _, h5⟩ := run_append_own_at (P := Tryd.prog) W base 28 o.type 46 i0 _ 7 96 ht hi hz0 hz1 hz2 rfl (by omega) v n xs own ad m c ys hl hcells h1 (by simp only [maxLen]; omega) (by omega) hbase
      exact ⟨v1, w1, hr, h2, h3, h5⟩
  obtain ⟨v1, w1, hr, hown, hg, hat⟩ := hrun
  refine wpList_plain hgd fun K hK => ?_
  unfold Oper.wp execOp
  simp only [ho, resolve, invoke, builtin, Sem.run_bind, Sem.run_pure, Result.andThen_ok, List.map_toArray, List.map_cons, List.map_nil, hs, hx, hr]
  exact hK _ _ (h v1 w1 hown ((Below.refl base W).grown hg hbase (own_base own)) hat)
/-- Each text stands with its two marks. -/
inductive LT.Txd (w : World) : LT VS → Prop where
  | mk {l : LT VS} (ht : Row w l.th.A (nums8 (l.text ++ [201, 77]))) (hc : l.text.length + 2 ≤ l.th.cap) (hs : ∀ p ∈ l.parts, LT.Txd w p) : LT.Txd w l
theorem LT.Mkd.txd {w : World} {l : LT VS} (h : l.Mkd w) : l.Txd w := by
  induction h with
  | mk ht hc _ _ _ ih => exact .mk ht hc ih
theorem LT.Txd.keep {w w' : World} {l : LT VS} (h : l.Txd w) (hb : Below w.heap.size w w') : l.Txd w' := by
  induction h with
  | mk ht hc _ ih => exact .mk (ht.below hb) hc ih
theorem LT.Txd.move {w w' : World} {l : LT VS} (h : l.Txd w) (hm : ∀ k ∈ l.ids, w'.heap[k]? = w.heap[k]?) : l.Txd w' := by
  induction h with
  | @mk l ht hc _ ih =>
    rw [LT.ids_eq] at hm
    refine .mk (row_move ht fun b o e => hm b ?_) hc fun p hp => ih p hp fun k hk => hm k ?_
    · exact List.mem_append_left _ (Hdr.ids_A e)
    · exact List.mem_append_right _ (List.mem_append_right _ (LT.ids_mem hp hk))
theorem LT.Rd.move {w w' : World} {l : LT VS} (h : l.Rd VS.enc w) (hm : ∀ k ∈ l.ids, w'.heap[k]? = w.heap[k]?) : l.Rd VS.enc w' := by
  induction h with
  | @mk l ht hr hp hq hl _ ih =>
    rw [LT.ids_eq] at hm
    refine .mk ht (row_move hr fun b o e => hm b ?_) hp (row_move hq fun b o e => hm b ?_) hl fun p hp => ih p hp fun k hk => hm k ?_
    · exact List.mem_append_left _ (Hdr.ids_A e)
    · exact List.mem_append_right _ (List.mem_append_left _ (Hdr.ids_A e))
    · exact List.mem_append_right _ (List.mem_append_right _ (LT.ids_mem hp hk))
theorem rowCells_one' (ls : List (LT VS)) : ∀ u ∈ rowCells VS.enc ls, u.oneCell' = true := by
  intro u hu
  obtain ⟨l, _, hu⟩ := List.mem_flatMap.1 hu
  exact nodeV_one l u hu
/-- One node's list of parts is another one. -/
theorem rowCells_set : ∀ (ls : List (LT VS)) (k : Nat) (s : VS) (th : Hdr) (t : List Int) (ph ph' : Hdr) (ps ps' : List (LT VS)), ls[k]? = some (.mk s th t ph ps) →
    (rowCells VS.enc ls).set (k * 7 + 6) (.slice ph'.A ps'.length ph'.cap) = rowCells VS.enc (ls.set k (.mk s th t ph' ps'))
  | [], k, _, _, _, _, _, _, _, h => by simp at h
  | l :: ls, 0, s, th, t, ph, ph', ps, ps', h => by
    simp only [List.getElem?_cons_zero, Option.some.injEq] at h
    subst h
    rfl
  | l :: ls, k + 1, s, th, t, ph, ph', ps, ps', h => by
    have ih := rowCells_set ls k s th t ph ph' ps ps' (by simpa using h)
    simp only [rowCells, List.flatMap_cons, List.set_cons_succ] at ih ⊢
    rw [List.set_append, if_neg (by rw [LT.cells_length VS.enc5]; omega), LT.cells_length VS.enc5, show (k + 1) * 7 + 6 - 7 = k * 7 + 6 from by omega, ih]
def TwinPost (w : World) (ls : List (LT VS)) (e : Ending) (w' : World) : Prop :=
  ∃ (h : Hdr) (ts : List (LT VS)), e = .returned (.slice h.A ts.length h.cap) ∧ LT.pures ts = LT.pures ls ∧ RdL VS.enc w' h.A ts ∧ ts.length ≤ h.cap ∧ (∀ p ∈ ts, LT.Txd w' p) ∧ (∀ k ∈ h.ids ++ LT.idss ts, k ∈ LT.idss ls ∨ w.heap.size ≤ k) ∧ Below w.heap.size w w'
def TwinAt (n : Nat) : Prop := ∀ (w : World) (A : Option Addr) (c : Nat) (ls : List (LT VS)), LT.cnts ls ≤ n → RdL VS.enc w A ls → (∀ p ∈ ls, LT.Txd w p) → (∀ k ∈ LT.idss ls, k < w.heap.size) → TT.wts (LT.pures ls) ≤ 1048576 →
  Calls Tryd.prog 15 #[.slice A ls.length c] w (TwinPost w ls)
theorem set_self {α : Type} {l : List α} {k : Nat} {x : α} (h : l[k]? = some x) : l.set k x = l := by
  apply List.ext_getElem?
  intro j
  rw [List.getElem?_set]
  split
  · next e => subst e; split <;> simp_all
  · rfl
theorem LT.pures_set (ls : List (LT VS)) (k : Nat) (l : LT VS) : LT.pures (ls.set k l) = (LT.pures ls).set k l.pure := by simp [LT.pures_map, List.map_set]
theorem LT.idss_set (ls : List (LT VS)) (k : Nat) (l : LT VS) : ∀ i ∈ LT.idss (ls.set k l), i ∈ LT.idss ls ∨ i ∈ l.ids := by
  intro i hi
  rw [LT.idss_flat] at hi
  obtain ⟨p, hp, hi2⟩ := List.mem_flatMap.1 hi
  rcases List.mem_or_eq_of_mem_set hp with hp | rfl
  · exact .inl (LT.ids_mem hp hi2)
  · exact .inr hi2
set_option maxRecDepth 100000 in
set_option maxHeartbeats 4000000 in
theorem twin_of (n : Nat) (HI : ∀ m, m < n → TwinAt m) : TwinAt n := by
  intro w A c ls hcnt hA hT hlt hwt
  have hlen : ls.length ≤ 1048576 := by
    have := TT.wts_len (LT.pures ls)
    rw [LT.pures_length] at this
    omega
  have h0 : (w.alloc (.cells #[] 46)).ownsRow w.heap.size 46 7 (.slice (some ⟨w.heap.size, 0, none⟩) 0 0) 0 [] :=
    World.ownsRow_lit (base := w.heap.size) (e := 46) (size := 7) w #[] 0 (Nat.le_refl _) (by simp [maxLen]) rfl
  have hr0 : Row (w.alloc (.cells #[] 46)) A (rowCells VS.enc ls) := hA.row.below ((Below.refl _ _).alloc (Nat.le_refl _) _)
  have HA := Lib.hid hA
  have HT := Lib.hid hT
  have HLT := Lib.hid hlt
  have HREC := Lib.hid HI
  have H0 := Lib.hid (show _ ∧ _ from ⟨h0, hr0⟩)
  clear hA hT hlt HI h0 hr0
  go_enter Tryd.func15, Tryd.ntmps15
  go_wp2_with (((with_reducible refine gate_dst (N := 7) rfl ?_); go_loud (refine app_list rfl (.tmp 5) (.tmp 6) rfl w.heap.size _ 0 [] (rowCells VS.enc ls) A ls.length c rfl rfl (rowCells_length VS.enc5 ls) (rowCells_one' ls) H0.out.1 H0.out.2 (by omega) (by simp) ?_); intro v1 w1 own1 hb1 hat1; rw [List.nil_append, Nat.zero_add] at own1; obtain ⟨A1, c1, rfl⟩ := cut_slice own1; have H1 := Lib.hid (show _ ∧ _ from ⟨own1, ((Below.refl w.heap.size w).alloc (Nat.le_refl _) _).trans hb1⟩); clear own1 hb1 hat1))
  go_loopw [4] (fun vi wr => ∃ (k : Nat) (cur : List (LT VS)), k ≤ ls.length ∧ vi = .int .i64 k ∧ cur.length = ls.length ∧ LT.pures cur = LT.pures ls ∧ (∀ j, k ≤ j → cur[j]? = ls[j]?) ∧ wr.ownsRow w.heap.size 46 7 (.slice A1 ls.length c1) ls.length (rowCells VS.enc cur) ∧ (∀ j p, j < k → cur[j]? = some p → p.Rd VS.enc wr ∧ p.Txd wr) ∧ (∀ i ∈ LT.idss cur, i ∈ LT.idss ls ∨ w.heap.size ≤ i ∧ A1.map (·.block) ≠ some i) ∧ Below w.heap.size w wr) (fun vi _ => ls.length - (intOf vi).toNat)
  case atStart => exact ⟨0, ls, by omega, rfl, rfl, rfl, fun _ _ => rfl, H1.out.1, (fun j p h => by omega), fun i hi => .inl hi, H1.out.2⟩
  case round =>
    obtain ⟨k, cur, hk, rfl, hcl, hpu, hrest, hown, hdone, hids, hb⟩ := hrel
    have HC := Lib.hid (show _ ∧ _ ∧ _ ∧ _ ∧ _ ∧ _ ∧ _ from ⟨hcl, hpu, hrest, hown, hdone, hids, hb⟩)
    clear hcl hpu hrest hown hdone hids hb H0 H1
    by_cases hlt : k < ls.length
    · obtain ⟨g, c1', hAe, hg0, hg1⟩ := HC.out.2.2.2.1.form (by omega)
      injection hAe with hA1 hA2 hA3
      subst hA1 hA3
      have hkc : k < cur.length := by rw [HC.out.1]; exact hlt
      have hck : cur[k]? = some ls[k] := by rw [HC.out.2.2.1 k (Nat.le_refl _)]; simp [hlt]
      have hmem : ls[k] ∈ ls := List.getElem_mem hlt
      have hcp : LT.cnts (ls[k]).parts < n := by
        have h1 := LT.cnt_parts ls[k]
        have h2 := LT.cnt_mem hmem
        omega
      have hwp : (ls[k]).pure.wt ≤ 1048576 := by
        have h1 : (ls[k]).pure ∈ LT.pures ls := by rw [LT.pures_map]; exact List.mem_map_of_mem hmem
        have := TT.wt_mem h1
        omega
      generalize ls[k] = l at *
      obtain ⟨s, th, tx, ph, ps⟩ := l
      have a6 : wr.cell? ⟨g, k * 7 + 6, none⟩ = some (.slice ph.A ps.length ph.cap) := by
        rw [HC.out.2.2.2.1.cellAt (k * 7 + 6) (by omega), rowCells_get VS.enc5 cur k hkc 6 (by omega)]
        have : cur[k] = LT.mk s th tx ph ps := by
          rw [List.getElem?_eq_getElem hkc] at hck
          injection hck
        rw [this]
        rfl
      have HX := Lib.hid (show _ ∧ _ ∧ _ ∧ _ from ⟨hck, hmem, hcp, hwp⟩)
      clear hck hmem hcp hwp
      go_wp2_with fail
      have hb := HC.out.2.2.2.2.2.2
      have hidp : ∀ q ∈ LT.idss ps, q ∈ LT.idss ls := fun q hq => LT.ids_mem HX.out.2.1 (List.mem_append_right _ (List.mem_append_right _ hq))
      have hidt : ∀ q ∈ th.ids, q ∈ LT.idss ls := fun q hq => LT.ids_mem HX.out.2.1 (List.mem_append_left _ hq)
      have hRd : (LT.mk s th tx ph ps).Rd VS.enc wr := (HA.out.all _ HX.out.2.1).keep hb
      have hTx : (LT.mk s th tx ph ps).Txd wr := (HT.out _ HX.out.2.1).keep hb
      have hTp : ∀ p ∈ ps, LT.Txd wr p := by
        cases hTx with | mk _ _ hs => exact hs
      have hwps : TT.wts (LT.pures ps) ≤ 1048576 := by
        have h1 := HX.out.2.2.2
        simp only [LT.pure, TT.wt] at h1
        omega
      have hsw := hb.size
      have HP := Lib.hid (show _ ∧ _ ∧ _ ∧ _ from ⟨hRd, hTx, hidp, hidt⟩)
      refine (HREC.out (LT.cnts ps) HX.out.2.2.1 _ _ _ ps (Nat.le_refl _) hRd.parts hTp (fun q hq => Nat.lt_of_lt_of_le (HLT.out q (hidp q hq)) hb.size) hwps).mono ?_
      rintro e w2 ⟨h2, ts2, rfl, hp2, hrd2, hcap2, htx2, hid2, hb2⟩
      clear hb hidp hidt hRd hTx hTp hwps a6
      have own2 : w2.ownsRow w.heap.size 46 7 (.slice (some ⟨g, 0, none⟩) ls.length c1) ls.length (rowCells VS.enc cur) := ownsRow_move HC.out.2.2.2.1 fun q hq => by
        simp only [Value.ownBlock, Option.some.injEq] at hq
        subst hq
        exact hb2.block _ hg1
      have c6 : w2.cell? ⟨g, k * 7 + 6, none⟩ = some (.slice ph.A ps.length ph.cap) := by
        rw [own2.cellAt (k * 7 + 6) (by omega), rowCells_get VS.enc5 cur k hkc 6 (by omega)]
        have : cur[k] = LT.mk s th tx ph ps := by
          have hck := HX.out.1
          rw [List.getElem?_eq_getElem hkc] at hck
          injection hck
        rw [this]
        rfl
      have f6 := own2.frozenAt (k * 7 + 6)
      have hs2 := hb2.size
      have hln : ts2.length = ps.length := by
        have := congrArg List.length hp2
        rwa [LT.pures_length, LT.pures_length] at this
      have H2 := Lib.hid (show _ ∧ _ ∧ _ ∧ _ ∧ _ ∧ _ ∧ _ from ⟨hp2, hrd2, hcap2, htx2, hid2, hb2, own2⟩)
      clear hp2 hrd2 hcap2 htx2 hid2 hb2 own2
      go_wp2
      go_roundw
      case rel =>
        have hnew : (LT.mk s th tx h2 ts2).Rd VS.enc w2 := by
          have h1 := HP.out.1.keep H2.out.2.2.2.2.2.1
          exact .mk h1.textCap h1.textRow H2.out.2.2.1 H2.out.2.1.row ⟨h1.textLen, H2.out.2.1.len⟩ H2.out.2.1.all
        have hnewT : (LT.mk s th tx h2 ts2).Txd w2 := by
          have h1 := HP.out.2.1.keep H2.out.2.2.2.2.2.1
          cases h1 with | mk ht hc _ => exact .mk ht hc H2.out.2.2.2.1
        have hpn : (LT.mk s th tx h2 ts2).pure = (LT.mk s th tx ph ps).pure := by simp only [LT.pure, H2.out.1]
        have hidn : ∀ q ∈ (LT.mk s th tx h2 ts2).ids, q ∈ LT.idss ls ∨ w.heap.size ≤ q ∧ q ≠ g := by
          intro q hq
          rcases List.mem_append.1 (show q ∈ th.ids ++ (h2.ids ++ LT.idss ts2) from hq) with hq | hq
          · exact .inl (HP.out.2.2.2 q hq)
          · rcases H2.out.2.2.2.2.1 q hq with hq | hq
            · exact .inl (HP.out.2.2.1 q hq)
            · exact .inr ⟨by omega, by omega⟩
        have hne : ∀ q, (q ∈ LT.idss ls ∨ w.heap.size ≤ q ∧ q ≠ g) → (w2.setCell ⟨g, k * 7 + 6, none⟩ (.slice h2.A ts2.length h2.cap)).heap[q]? = w2.heap[q]? := by
          intro q hq
          refine Below.heap_setCell _ _ _ _ ?_
          rcases hq with hq | hq
          · have := HLT.out q hq
            show q ≠ g
            omega
          · exact hq.2
        have hcurid : ∀ i ∈ LT.idss cur, i ∈ LT.idss ls ∨ w.heap.size ≤ i ∧ i ≠ g := fun i hi => by
          rcases HC.out.2.2.2.2.2.1 i hi with h | h
          · exact .inl h
          · exact .inr ⟨h.1, fun e => h.2 (by rw [e]; rfl)⟩
        refine ⟨k + 1, cur.set k (LT.mk s th tx h2 ts2), by omega, by go_num, by rw [List.length_set]; exact HC.out.1, ?_, fun j hj => ?_, ?_, fun j p hj hp => ?_, fun i hi => ?_, (HC.out.2.2.2.2.2.2.trans (H2.out.2.2.2.2.2.1.mono hsw)).setCell (p := ⟨g, k * 7 + 6, none⟩) hg0 _⟩
        · rw [LT.pures_set, hpn, set_self, HC.out.2.1]
          rw [LT.pures_map, List.getElem?_map, HX.out.1]
          rfl
        · rw [List.getElem?_set_ne (by omega)]
          exact HC.out.2.2.1 j (by omega)
        · have h3 := (H2.out.2.2.2.2.2.2.stored (k * 7 + 6) (.slice h2.A ts2.length h2.cap)).1
          rw [rowCells_set cur k s th tx ph h2 ps ts2 HX.out.1] at h3
          rw [← hln]
          exact h3
        · rw [← hln]
          by_cases hjk : j = k
          · subst hjk
            rw [List.getElem?_set_self hkc] at hp
            injection hp with hp
            subst hp
            exact ⟨hnew.move fun q hq => hne q (hidn q hq), hnewT.move fun q hq => hne q (hidn q hq)⟩
          · rw [List.getElem?_set_ne (by omega)] at hp
            have h3 := HC.out.2.2.2.2.1 j p (by omega) hp
            have hm := List.mem_of_getElem? hp
            exact ⟨(h3.1.keep H2.out.2.2.2.2.2.1).move fun q hq => hne q (hcurid q (LT.ids_mem hm hq)), (h3.2.keep H2.out.2.2.2.2.2.1).move fun q hq => hne q (hcurid q (LT.ids_mem hm hq))⟩
        · rcases LT.idss_set cur k _ i hi with hi | hi
          · exact HC.out.2.2.2.2.2.1 i hi
          · rcases hidn i hi with h | h
            · exact .inl h
            · exact .inr ⟨h.1, fun e => h.2 (by simpa using e.symm)⟩
      case measure => simp [intOf]; omega
    · have hkm : k = ls.length := by omega
      subst hkm
      go_wp2
      go_ret
      have hcl := HC.out.1
      have hall : ∀ p ∈ cur, p.Rd VS.enc wr ∧ p.Txd wr := fun p hp => by
        obtain ⟨j, hj, rfl⟩ := List.getElem_of_mem hp
        exact HC.out.2.2.2.2.1 j _ (by omega) (by simp [hj])
      have hro := own_row HC.out.2.2.2.1
      refine ⟨⟨A1, c1⟩, cur, by rw [hcl]; rfl, HC.out.2.1, ⟨hro.2.1, fun p hp => (hall p hp).1, by omega⟩, by rw [hcl]; exact hro.1, fun p hp => (hall p hp).2, fun q hq => ?_, HC.out.2.2.2.2.2.2⟩
      rcases List.mem_append.1 hq with hq | hq
      · exact .inr (own_ids_lt (h := ⟨A1, c1⟩) HC.out.2.2.2.1 q hq).1
      · rcases HC.out.2.2.2.2.2.1 q hq with h | h
        · exact .inl h
        · exact .inr h.1
theorem twin_all (n : Nat) : TwinAt n := by
  induction n using Nat.strongRecOn with
  | ind n ih => exact twin_of n ih
end Go.Proofs.YtplfmpcoojkjlaaDoor
