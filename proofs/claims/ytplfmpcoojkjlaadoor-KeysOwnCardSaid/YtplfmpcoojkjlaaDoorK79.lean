/- The walk of KeysOwn. -/
import Derived.Test.YtplfmpcoojkjlaaDoorK78
namespace Go.Proofs.YtplfmpcoojkjlaaDoor
open Go.RowKit Go.Proofs.YtplfmpcoojkjlaaDoorW.PrintWords
theorem Led.row {w : World} {N : Nat} {T : List (SlH × List Int)} {R : List (Hdr × List (LT VS))} {C : List (Hdr × List (LT PS))} (h : Led w N T R C) {A : Option Addr} {n c : Nat} {xs : List Int} (hx : ((⟨A, n, c⟩ : SlH), xs) ∈ T) (hn : n = xs.length) : n ≤ c ∧ Row w A (nums8 xs) ∧ n ≤ 9223372036854775807 := by
  subst hn
  exact own_row (h.tx _ hx).1
theorem Led.same {w : World} {N : Nat} {T : List (SlH × List Int)} {R : List (Hdr × List (LT VS))} {C : List (Hdr × List (LT PS))} (h : Led w N T R C) {A A' : Option Addr} {n c c' : Nat} {xs : List Int} (hx : ((⟨A, n, c⟩ : SlH), xs) ∈ T) (hy : ((⟨A', n, c'⟩ : SlH), xs) ∈ T) (hn : n = xs.length) : Calls Tryd.prog 18 #[.slice A n c, .slice A' n c'] w fun e w' => e = .returned (.bool true) ∧ Drawn0 w w' := by
  have h1 := h.row hx hn
  have h2 := h.row hy hn
  subst hn
  have := same_calls w A A' xs xs c c' h1.2.1 h2.2.1 h1.2.2
  rwa [decide_eq_true rfl] at this
theorem Led.told {w : World} {N : Nat} {T : List (SlH × List Int)} {R : List (Hdr × List (LT VS))} {C : List (Hdr × List (LT PS))} (h : Led w N T R C) {x y : Hdr} {ls : List (LT VS)} {ms : List (LT PS)} {ps : List (TT PS)} (hx : (x, ls) ∈ R) (hy : (y, ms) ∈ C) (e1 : LT.pures ls = TT.maps PS.ans ps) (e2 : LT.pures ms = ps) :
    Calls Tryd.prog 26 #[.slice x.A ls.length x.cap, .slice y.A ms.length y.cap] w fun e w' => e = .returned (.bool true) ∧ Below w.heap.size w w' :=
  told_all (LT.cnts ms) w x.A y.A x.cap y.cap ls ms (Nat.le_refl _) (h.tr _ hx).rd.1 (OwnL.rd (h.tc _ hy)).1 (by rw [e1, e2])
mutual
theorem cmpT_self : ∀ p : TT PS, cmpT p p = 0
  | .mk s t ps => by
    have hs : ∀ x : Int, sgn x x = 0 := fun x => (sgn_zero x x).2 rfl
    simp only [cmpT, TT.s, TT.text, TT.parts, ne_eq, not_true_eq_false, hs, cmpX_self, cmpL_self ps, ite_self]
theorem cmpL_self : ∀ ps : List (TT PS), cmpL ps ps = 0
  | [] => rfl
  | p :: ps => by rw [cmpL, if_pos (cmpT_self p), cmpL_self ps]
end
theorem flts_fill (k : Int) (g : Nat → Int) (h1 : 1 ≤ k) (h2 : k < 7) (n : Nat) : TT.flts PS.kind (TT.maps VS.ps (LT.pures (fill (fun i => lfN k (g i)) n))) 0 = 0 := by
  have : ∀ l : List Nat, TT.flts PS.kind (TT.maps VS.ps (LT.pures (l.map fun i => lfN k (g i)))) 0 = 0 := by
    intro l
    induction l with
    | nil => rfl
    | cons i l ih =>
      have h0 : ((lfN k (g i)).pure.map VS.ps).flt PS.kind 0 = 0 := by
        show (if k < 1 ∨ 7 < k then (40 : Int) else if k = 7 then _ else 0) = 0
        rw [if_neg (by omega), if_neg (by omega)]
      rw [List.map_cons, LT.pures, TT.maps, TT.flts, if_pos h0, ih]
  exact this _
theorem Led.trees {w : World} {N : Nat} {T : List (SlH × List Int)} {R : List (Hdr × List (LT VS))} {C : List (Hdr × List (LT PS))} (h : Led w N T R C) {x : Hdr} {ls : List (LT VS)} (hx : (x, ls) ∈ R) : (∀ s ∈ LT.txss ls, ∃ xs, OwnB w N s.v xs ∧ xs.length = s.n) ∧ ∀ s ∈ (⟨x.A, ls.length, x.cap⟩ : SlH) :: LT.rwss ls, ∃ qs, OwnN w N s.v qs ∧ qs.length = s.n := by
  obtain ⟨h1, h2⟩ := (h.tr _ hx).lists
  have hin : ∀ b, b ∈ LT.idss ls → N ≤ b := fun b hb => (h.ge b (.inr (.inl (memR hx (.inr hb))))).1
  constructor
  · intro s hs
    obtain ⟨xs, ho, hl⟩ := h1 s hs
    refine ⟨xs, own_rebase ho fun b hb => hin b ?_, hl⟩
    have e1 : b ∈ idsS (LT.txss ls) := List.mem_flatMap.2 ⟨s, hs, SlH.mem_ids hb⟩
    have e2 := List.count_pos_iff.2 e1
    have e3 := LT.idss_count b ls
    exact List.count_pos_iff.1 (by omega)
  · intro s hs
    obtain ⟨xs, ho, hl⟩ := h2 s hs
    refine ⟨xs, own_rebase ho fun b hb => ?_, hl⟩
    rcases List.mem_cons.1 hs with rfl | hs
    · exact (h.ge b (.inr (.inl (memR hx (.inl (SlH.mem_ids hb)))))).1
    · refine hin b ?_
      have e1 : b ∈ idsS (LT.rwss ls) := List.mem_flatMap.2 ⟨s, hs, SlH.mem_ids hb⟩
      have e2 := List.count_pos_iff.2 e1
      have e3 := LT.idss_count b ls
      exact List.count_pos_iff.1 (by omega)
/-- The texts, and the rows, that are looked at in the end. -/
def txL (a b c d f t f2 t2 p : SlH) (l1 l2 l3 : List (LT VS)) : List SlH := (([a, b, c, d, f, t, f2, t2, p] ++ LT.txss l1) ++ LT.txss l2) ++ LT.txss l3
def hdS (h : Hdr) (ls : List (LT VS)) : SlH := ⟨h.A, ls.length, h.cap⟩
def rwL (h1 h2 h3 : Hdr) (l1 l2 l3 : List (LT VS)) : List SlH := ((hdS h1 l1 :: LT.rwss l1) ++ (hdS h2 l2 :: LT.rwss l2)) ++ (hdS h3 l3 :: LT.rwss l3)
theorem Led.final {w : World} {N : Nat} {a b c d f t f2 t2 p v : SlH} {x1 x2 x3 x4 x5 x6 x7 x8 x9 x10 : List Int} {h1 h2 h3 : Hdr} {l1 l2 l3 : List (LT VS)} {C : List (Hdr × List (LT PS))}
    (h : Led w N [(d, x1), (c, x2), (p, x3), (f2, x4), (t2, x5), (f, x6), (t, x7), (b, x8), (v, x9), (a, x10)] [(h3, l3), (h2, l2), (h1, l1)] C) :
    (∃ g, TxInv w N (txL a b c d f t f2 t2 p l1 l2 l3) g) ∧ (∃ g, NdInv w N (rwL h1 h2 h3 l1 l2 l3) g) ∧ (∀ q, (idsS (txL a b c d f t f2 t2 p l1 l2 l3)).count q + (idsS (rwL h1 h2 h3 l1 l2 l3)).count q + v.ids.count q ≤ 1) ∧
      ∀ q, (q ∈ idsS (txL a b c d f t f2 t2 p l1 l2 l3) ∨ q ∈ idsS (rwL h1 h2 h3 l1 l2 l3) ∨ q ∈ v.ids) → N ≤ q ∧ q < w.heap.size := by
  have t1 := h.trees (x := h1) (ls := l1) (by simp)
  have t2' := h.trees (x := h2) (ls := l2) (by simp)
  have t3 := h.trees (x := h3) (ls := l3) (by simp)
  have hc : ∀ q, (idsS (txL a b c d f t f2 t2 p l1 l2 l3)).count q + (idsS (rwL h1 h2 h3 l1 l2 l3)).count q + v.ids.count q = (idsT [(d, x1), (c, x2), (p, x3), (f2, x4), (t2, x5), (f, x6), (t, x7), (b, x8), (v, x9), (a, x10)]).count q + (idsR [(h3, l3), (h2, l2), (h1, l1)]).count q := by
    intro q
    have e1 := LT.idss_count q l1
    have e2 := LT.idss_count q l2
    have e3 := LT.idss_count q l3
    have g : ∀ (h : Hdr) (l : List (LT VS)), (hdS h l).ids = h.ids := fun _ _ => rfl
    have n1 : (idsS ([] : List SlH)).count q = 0 := rfl
    simp only [txL, rwL, idsS_app, idsS_cons, idsT, idsR, List.flatMap_cons, List.flatMap_nil, List.count_append, g, List.count_nil, n1]
    omega
  refine ⟨tx_inv fun s hs => ?_, nd_inv fun s hs => ?_, fun q => by have := h.nd q; have := hc q; omega, fun q hq => ?_⟩
  · rcases List.mem_append.1 hs with hs | hs
    · rcases List.mem_append.1 hs with hs | hs
      · rcases List.mem_append.1 hs with hs | hs
        · simp only [List.mem_cons, List.not_mem_nil, or_false] at hs
          rcases hs with rfl | rfl | rfl | rfl | rfl | rfl | rfl | rfl | rfl
          · exact ⟨x10, h.tx (_, x10) (by simp)⟩
          · exact ⟨x8, h.tx (_, x8) (by simp)⟩
          · exact ⟨x2, h.tx (_, x2) (by simp)⟩
          · exact ⟨x1, h.tx (_, x1) (by simp)⟩
          · exact ⟨x6, h.tx (_, x6) (by simp)⟩
          · exact ⟨x7, h.tx (_, x7) (by simp)⟩
          · exact ⟨x4, h.tx (_, x4) (by simp)⟩
          · exact ⟨x5, h.tx (_, x5) (by simp)⟩
          · exact ⟨x3, h.tx (_, x3) (by simp)⟩
        · exact t1.1 s hs
      · exact t2'.1 s hs
    · exact t3.1 s hs
  · rcases List.mem_append.1 hs with hs | hs
    · rcases List.mem_append.1 hs with hs | hs
      · exact t1.2 s hs
      · exact t2'.2 s hs
    · exact t3.2 s hs
  · have hq' : 1 ≤ (idsS (txL a b c d f t f2 t2 p l1 l2 l3)).count q + (idsS (rwL h1 h2 h3 l1 l2 l3)).count q + v.ids.count q := by
      rcases hq with hq | hq | hq
      · have := List.count_pos_iff.2 hq; omega
      · have := List.count_pos_iff.2 hq; omega
      · have := List.count_pos_iff.2 hq; omega
    have := hc q
    by_cases e : q ∈ idsT [(d, x1), (c, x2), (p, x3), (f2, x4), (t2, x5), (f, x6), (t, x7), (b, x8), (v, x9), (a, x10)]
    · exact h.ge q (.inl e)
    · refine h.ge q (.inr (.inl (List.count_pos_iff.1 ?_)))
      have := List.count_eq_zero.2 e
      omega
set_option maxRecDepth 100000 in
/-- append(v, row...) of slices. -/
theorem app_sls {ops : Array Oper} {rest : List Oper} {o : Oper} {a : Act} {Q : Exit → Act → World → Prop} {W : World} (hgd : o.guard = none) (s x : Operand) (te : TypeId) (hte : te = 24 ∨ te = 28)
    (ho : o.op = .call { callee := .builtin .append, args := #[s, x], argTypes := if te = 24 then #[58, 58] else #[60, 60] }) (base : Nat) (A : Option Addr) (n c : Nat) (xs ys : List SlH) (B : Option Addr) (m d : Nat) (hs : a.eval s = .slice A n c) (hx : a.eval x = .slice B m d)
    (own : OwnS te W base (.slice A n c) xs) (hn : n = xs.length) (hm : m = ys.length) (rd : Row W B (encs SlH.v ys)) (hl : xs.length + ys.length ≤ 1099511627776) (hbase : base ≤ W.heap.size)
    (h : ∀ A1 c1 w1, OwnS te w1 base (.slice A1 (n + m) c1) (xs ++ ys) → Below base W w1 → wpList Tryd.prog ops Q rest (a.put o.dst (.slice A1 (n + m) c1)) w1) :
    wpList Tryd.prog ops Q (o :: rest) a W := by
  subst hm
  subst hn
  rcases hte with rfl | rfl
  · rw [if_pos rfl] at ho
    refine print_append_row_of SlH.v ⟨none, 0, 0⟩ base hgd s x 58 24 _ 24 ho Tryd.underlying58 info24 rfl (by decide) (fun _ => rfl) _ xs ys B _ d hs hx own (reads_sl rd (by omega)) (Below.refl _ _) hbase (by omega) ?_
    intro v1 w1 ho1 hb1 _ _
    obtain ⟨A1, c1, rfl⟩ := own_slice ho1
    rw [List.length_append]
    exact h A1 c1 w1 (by have h := ho1; rw [List.length_append] at h; unfold OwnS; rw [List.length_append]; exact h) hb1
  · rw [if_neg (by decide)] at ho
    refine print_append_row_of SlH.v ⟨none, 0, 0⟩ base hgd s x 60 28 _ 24 ho Tryd.underlying60 info28 rfl (by decide) (fun _ => rfl) _ xs ys B _ d hs hx own (reads_sl rd (by omega)) (Below.refl _ _) hbase (by omega) ?_
    intro v1 w1 ho1 hb1 _ _
    obtain ⟨A1, c1, rfl⟩ := own_slice ho1
    rw [List.length_append]
    exact h A1 c1 w1 (by have h := ho1; rw [List.length_append] at h; unfold OwnS; rw [List.length_append]; exact h) hb1
theorem TxInv.below {w w' : World} {base : Nat} {vs : List SlH} {f : Nat → List Int} (h : TxInv w base vs f) (hb : Below w.heap.size w w') : TxInv w' base vs f := fun j s hj => ⟨OwnB.keep (h j s hj).1 hb, (h j s hj).2⟩
theorem NdInv.move {w w' : World} {base : Nat} {vs : List SlH} {f : Nat → List (LT VS)} (h : NdInv w base vs f) (hm : ∀ q, q < w.heap.size → q ∈ idsS vs → w'.heap[q]? = w.heap[q]?) : NdInv w' base vs f := fun j s hj =>
  ⟨ownsRow_move (h j s hj).1 fun k hk => hm k (own_lt (h j s hj).1 k hk) (List.mem_flatMap.2 ⟨s, List.mem_of_getElem? hj, SlH.mem_ids hk⟩), (h j s hj).2⟩
theorem Others.ids {w w' : World} {vs : List SlH} (h : Others w w' vs) {q : Nat} (hq : q < w.heap.size) (hn : q ∉ idsS vs) : w'.heap[q]? = w.heap[q]? := h q hq fun _ s hj hb => hn (List.mem_flatMap.2 ⟨s, List.mem_of_getElem? hj, SlH.mem_ids hb⟩)
/-- An operation whose guard wants it. -/
theorem wanted_op {P : Program} {ops : Array Oper} {rest : List Oper} {o : Oper} {a : Act} {Q : Exit → Act → World → Prop} {W : World} (hw : Region.wanted o (yielded ops a.tmps) = true) (h : wpList P ops Q ({ o with guard := none } :: rest) a W) : wpList P ops Q (o :: rest) a W := by
  unfold wpList at h ⊢
  rw [if_pos (show Region.wanted { o with guard := none } (yielded ops a.tmps) = true from rfl)] at h
  rw [if_pos hw]
  exact h
set_option maxRecDepth 100000 in
set_option maxHeartbeats 16000000 in
theorem own_calls (w : World) (A : Option Addr) (ms : List (LT PS)) (c : Nat) (hA : RdL PS.enc w A ms) (hfm : TT.alls PS.fits (LT.pures ms)) (B : Option Addr) (us : List (LT PS)) (d : Nat) (hB : RdL PS.enc w B us) (hfu : TT.alls PS.fits (LT.pures us)) :
    Calls Tryd.prog 11 #[.slice A ms.length c, .slice B us.length d] w fun e w' => e = .returned (.bool true) ∧ Below w.heap.size w w' := by
  obtain ⟨bb, hbb, hwt⟩ := beyond_any w A c ms hA
  obtain ⟨b2, hbb2, hwt2⟩ := beyond_any w B d us hB
  have HBA := Lib.hid hbb
  have HBB := Lib.hid hbb2
  have H0 := Lib.hid (show _ ∧ _ ∧ _ ∧ _ from ⟨hA, hfm, hB, hfu⟩)
  clear hA hfm hB hfu hbb hbb2
  cases bb
  case true =>
    clear hwt hwt2 HBB
    go_enter Tryd.func11, Tryd.ntmps11
    go_wp2_with fail
    refine (HBA.out _ (Below.refl _ _)).mono ?_
    rintro e w' ⟨rfl, hw'⟩
    rw [← hw']
    clear hw' w'
    go_wp2
    go_ret
    exact ⟨rfl, Below.refl _ _⟩
  cases b2
  case true =>
    clear hwt hwt2
    go_enter Tryd.func11, Tryd.ntmps11
    go_wp2_with fail
    refine (HBA.out _ (Below.refl _ _)).mono ?_
    rintro e w' ⟨rfl, hw'⟩
    rw [← hw']
    clear hw' w'
    go_wp2_with fail
    refine (HBB.out _ (Below.refl _ _)).mono ?_
    rintro e w' ⟨rfl, hw'⟩
    rw [← hw']
    clear hw' w'
    go_wp2
    go_ret
    exact ⟨rfl, Below.refl _ _⟩
  have hw1 := hwt rfl
  have hw2 := hwt2 rfl
  have hcl := codL_len (LT.pures ms)
  have hcu := codL_len (LT.pures us)
  have hml := TT.wts_len (LT.pures ms)
  have HW := Lib.hid (show TT.wts (LT.pures ms) ≤ 131072 ∧ TT.wts (LT.pures us) ≤ 131072 ∧ (codL (LT.pures ms)).length ≤ 274877906944 ∧ (codL (LT.pures us)).length ≤ 1099511627775 ∧ (LT.pures ms).length ≤ 131072 from ⟨hw1, hw2, by omega, by omega, by omega⟩)
  clear hw1 hw2 hwt hwt2 hcl hcu hml
  go_enter Tryd.func11, Tryd.ntmps11
  go_wp2_with fail
  refine (HBA.out _ (Below.refl _ _)).mono ?_
  rintro e w' ⟨rfl, hw'⟩
  rw [← hw']
  clear hw' w'
  go_wp2_with fail
  refine (HBB.out _ (Below.refl _ _)).mono ?_
  rintro e w' ⟨rfl, hw'⟩
  rw [← hw']
  clear hw' w' HBA HBB
  go_wp2_with fail
  refine (awake_calls w).mono ?_
  rintro e w1 ⟨rfl, hb1⟩
  have H1 := Lib.hid hb1
  clear hb1
  go_wp2_with fail
  refine (val_own w A c ms H0.out.1 H0.out.2.1 (by have := HW.out.1; omega) w1 H1.out).mono ?_
  rintro e w2 ⟨A2, ls, c2, rfl, hg2, ho2, hl2, hb2⟩
  have hen := enc_any hg2 (by have := HW.out.2.2.1; omega) c2 w2 (Below.refl _ _)
  unfold EncPost at hen
  have HEN := Lib.hid hen
  have H2 := Lib.hid (show _ ∧ _ ∧ _ ∧ ls.length ≤ 131072 from ⟨H1.out.trans (hb2.mono H1.out.size), hg2, ho2, by have := HW.out.2.2.2.2; omega⟩)
  clear hen hg2 ho2 hl2 hb2
  go_wp2_with fail
  refine HEN.out.mono ?_
  rintro e w3 ⟨A3, c3, rfl, ho3, hb3⟩
  by_cases hf : TT.flts PS.kind (LT.pures ms) 0 = 0
  case neg =>
    have he := encS_no hf
    have hcs := flts_cases (LT.pures ms) 0
    rw [he]
    have H3 := Lib.hid (H2.out.1.trans (hb3.mono H2.out.1.size))
    generalize TT.flts PS.kind (LT.pures ms) 0 = F at *
    have HF := Lib.hid he
    clear he ho3 hb3 HEN
    rcases hcs with h | h | h
    · exact absurd h hf
    all_goals
      subst h
      clear hf
      go_wp2
      go_ret
      exact ⟨rfl, H3.out⟩
  case pos =>
    have he := encS_ok hf
    have hsp := spanS_ok hf
    rw [he] at hsp ho3
    have HD := Lib.hid (dec_row hf H0.out.2.1 (by have := HW.out.2.2.1; omega))
    have HX := Lib.hid (codL_byt (LT.pures ms) 0 hf H0.out.2.1)
    have HEN2 := Lib.hid (fun (w' : World) (hb : Below w2.heap.size w2 w') => enc_any H2.out.2.1 (by have := HW.out.2.2.1; omega) c2 w' hb)
    have HSP2 := Lib.hid (fun (w' : World) (hb : Below w2.heap.size w2 w') => span_any H2.out.2.1 (by have := HW.out.2.2.1; omega) c2 w' hb)
    have HENX := Lib.hid (fun (w' : World) (B : Option Addr) (ks : List (LT VS)) (c : Nat) (hg : Good w' B ks (LT.pures ms)) => enc_any hg (by have := HW.out.2.2.1; omega) c w' (Below.refl _ _))
    unfold EncPost at HEN2 HENX
    unfold SpanPost at HSP2
    rw [he, hf] at HEN2 HENX
    obtain ⟨ts, hts⟩ : ∃ ts, ts = codL (LT.pures ms) ++ [8] := ⟨_, rfl⟩
    rw [← hts] at hsp
    rw [he, hf, hsp] at HSP2
    rw [he, hf]
    have hxl := HW.out.2.2.1
    generalize hxs : codL (LT.pures ms) = xs at *
    have HXS := Lib.hid hxs
    have HTS := Lib.hid hts
    have HXL := Lib.hid hxl
    have H3 := Lib.hid (show _ ∧ _ from ⟨(Led.nil (Nat.le_refl w2.heap.size)).addT hb3 ⟨A3, xs.length, c3⟩ xs rfl ho3, hb3⟩)
    clear hxl hxs hts ho3 hb3 HEN he hsp hf
    go_wp2_with (((with_reducible refine gate_dst (N := 61) rfl ?_); go_loud (refine copy_bytes rfl (.tmp 59) (.tmp 60) rfl A3 c3 xs.length xs rfl rfl rfl (H3.out.1.row (List.mem_cons_self ..) rfl).2.1 (by have := HXL.out; omega) ?_); intro A4 c4 w4 ho4 hb4; have H4 := Lib.hid (show _ ∧ _ from ⟨H3.out.1.addT hb4 ⟨A4, xs.length, c4⟩ xs rfl ho4, H3.out.2.trans (hb4.mono H3.out.2.size)⟩); clear ho4 hb4))
    refine (HEN2.out w4 H4.out.2).mono ?_
    rintro e w5 ⟨A5, c5, rfl, ho5, hb5⟩
    have H5 := Lib.hid (show _ ∧ _ from ⟨H4.out.1.addT hb5 ⟨A5, xs.length, c5⟩ xs rfl ho5, H4.out.2.trans (hb5.mono H4.out.2.size)⟩)
    clear ho5 hb5
    go_wp2_with fail
    refine (HSP2.out w5 H5.out.2).mono ?_
    rintro e w6 ⟨A6, c6, B6, d6, rfl, ho6, hp6, hn6, hb6⟩
    have H6 := Lib.hid (show _ ∧ _ from ⟨H5.out.1.addT2 hb6 ⟨A6, xs.length, c6⟩ ⟨B6, ts.length, d6⟩ xs ts rfl rfl ho6 hp6 hn6, H5.out.2.trans (hb6.mono H5.out.2.size)⟩)
    clear ho6 hp6 hn6 hb6
    go_wp2_with fail
    refine (HSP2.out w6 H6.out.2).mono ?_
    rintro e w7 ⟨A7, c7, B7, d7, rfl, ho7, hp7, hn7, hb7⟩
    have H7 := Lib.hid (show _ ∧ _ from ⟨H6.out.1.addT2 hb7 ⟨A7, xs.length, c7⟩ ⟨B7, ts.length, d7⟩ xs ts rfl rfl ho7 hp7 hn7, H6.out.2.trans (hb7.mono H6.out.2.size)⟩)
    clear ho7 hp7 hn7 hb7
    go_wp2_with (((with_reducible refine gate_dst (N := 81) rfl ?_); go_loud (refine copy_bytes rfl (.tmp 79) (.tmp 80) rfl A4 c4 xs.length xs rfl rfl rfl (H7.out.1.row (c := c4) (by simp) rfl).2.1 (by have := HXL.out; omega) ?_); intro A8 c8 w8 ho8 hb8; have H8 := Lib.hid (show _ ∧ _ from ⟨H7.out.1.addT hb8 ⟨A8, xs.length, c8⟩ xs rfl ho8, H7.out.2.trans (hb8.mono H7.out.2.size)⟩); clear ho8 hb8))
    have hr8 := H8.out.1.row (c := c8) (List.mem_cons_self ..) rfl
    refine (HD.out w8 A8 c8 hr8.2.1 hr8.1).mono ?_
    rintro e w9 ⟨h9, l9, rfl, hp9, hd9⟩
    have H9 := Lib.hid (show _ ∧ _ ∧ _ ∧ _ ∧ _ from ⟨H8.out.1.addR hd9.below h9 l9 hd9.own hd9.nd hd9.ge, H8.out.2.trans (hd9.below.mono H8.out.2.size), hp9, hd9.cnt, hd9.tx⟩)
    clear hr8 hp9 hd9
    go_wp2_with fail
    have hr9 := H9.out.1.row (A := A8) (c := c8) (List.mem_cons_self ..) rfl
    refine (HD.out w9 A8 c8 hr9.2.1 hr9.1).mono ?_
    rintro e w10 ⟨h10, l10, rfl, hp10, hd10⟩
    have H10 := Lib.hid (show _ ∧ _ ∧ _ ∧ _ ∧ _ from ⟨H9.out.1.addR hd10.below h10 l10 hd10.own hd10.nd hd10.ge, H9.out.2.1.trans (hd10.below.mono H9.out.2.1.size), hp10, hd10.cnt, hd10.tx⟩)
    clear hr9 hp10 hd10 HD
    go_wp2_with fail
    have hr10 : Row (w10.alloc (.cells (nums8 [6, 1, 0, 7, 1, 0]).toArray 5)) (some ⟨w10.heap.size, 0, none⟩) (nums8 [6, 1, 0, 7, 1, 0]) := (at_new w10 _ _).row
    refine (dec_any _ _ [6, 1, 0, 7, 1, 0] 6 6 rfl hr10 (by unfold Byt; decide) (by decide) (by decide)).mono ?_
    rintro e w11 ⟨h11, l11, er11, rfl, hb11⟩
    have hb11' : Below w10.heap.size w10 w11 := ((Below.refl _ _).alloc (Nat.le_refl _) _).trans (hb11.mono (by simp))
    have H11 := Lib.hid (show _ ∧ _ from ⟨H10.out.1.below hb11', H10.out.2.1.trans (hb11'.mono H10.out.2.1.size)⟩)
    clear hr10 hb11 hb11'
    go_wp2_with fail
    refine (val_any w B d us H0.out.2.2.1 H0.out.2.2.2 (by have := HW.out.2.1; omega) w11 (H2.out.1.trans (H11.out.2.mono H2.out.1.size))).mono ?_
    rintro e w12 ⟨A12, l12, c12, rfl, hg12, hb12⟩
    have hen := enc_any hg12 HW.out.2.2.2.1 c12 w12 (Below.refl _ _)
    unfold EncPost at hen
    have HEN := Lib.hid hen
    have H12 := Lib.hid (show _ ∧ _ from ⟨H11.out.1.below hb12, H11.out.2.trans (hb12.mono H11.out.2.size)⟩)
    clear hen hg12 hb12
    go_wp2_with fail
    refine HEN.out.mono ?_
    rintro e w13 ⟨A13, c13, rfl, _, hb13⟩
    have H13 := Lib.hid (show _ ∧ _ from ⟨H12.out.1.below hb13, H12.out.2.trans (hb13.mono H12.out.2.size)⟩)
    clear hb13 HEN
    go_wp2_with fail
    refine (cln_all (LT.cnts ms) w13 A c ms (Nat.le_refl _) (H0.out.1.below (H2.out.1.trans (H13.out.2.mono H2.out.1.size))) H0.out.2.1 (by have := HW.out.1; omega)).mono ?_
    rintro e w14 ⟨h14, l14, rfl, hp14, hcr14⟩
    have H14 := Lib.hid (show _ ∧ _ ∧ _ from ⟨H13.out.1.addC h14 l14 hcr14, H13.out.2.trans (hcr14.below.mono H13.out.2.size), hp14⟩)
    clear hp14 hcr14
    go_wp2_with fail
    refine (H14.out.1.same (c := c3) (c' := c4) (by simp) (by simp) rfl).mono ?_
    rintro e w15 ⟨rfl, hd⟩
    have H15 := Lib.hid (show _ ∧ _ from ⟨H14.out.1.below hd.below, H14.out.2.1.trans (hd.below.mono H14.out.2.1.size)⟩)
    clear hd
    go_wp2_with fail
    refine (H15.out.1.same (c := c5) (c' := c4) (by simp) (by simp) rfl).mono ?_
    rintro e w16 ⟨rfl, hd⟩
    have H16 := Lib.hid (show _ ∧ _ from ⟨H15.out.1.below hd.below, H15.out.2.trans (hd.below.mono H15.out.2.size)⟩)
    clear hd
    go_wp2_with fail
    refine (H16.out.1.same (c := c6) (c' := c4) (by simp) (by simp) rfl).mono ?_
    rintro e w17 ⟨rfl, hd⟩
    have H17 := Lib.hid (show _ ∧ _ from ⟨H16.out.1.below hd.below, H16.out.2.trans (hd.below.mono H16.out.2.size)⟩)
    clear hd
    go_wp2_with fail
    refine (H17.out.1.same (c := c7) (c' := c4) (by simp) (by simp) rfl).mono ?_
    rintro e w18 ⟨rfl, hd⟩
    have H18 := Lib.hid (show _ ∧ _ from ⟨H17.out.1.below hd.below, H17.out.2.trans (hd.below.mono H17.out.2.size)⟩)
    clear hd
    go_wp2_with (first | ((with_reducible refine gate_dst (N := 139) rfl ?_); go_loud (refine wanted_op rfl (copy_bytes rfl (.tmp 137) (.tmp 138) rfl A4 c4 xs.length xs rfl rfl rfl (H18.out.1.row (c := c4) (by simp) rfl).2.1 (by have := HXL.out; omega) ?_)); intro A19 c19 w19 ho19 hb19; have H19 := Lib.hid (show _ ∧ _ from ⟨fun O => OwnB.keep ho19 ((Below.refl w19.heap.size w19).alloc (Nat.le_refl _) O), hb19⟩); clear ho19 hb19) | ((with_reducible refine gate_dst (N := 141) rfl ?_); go_loud (refine wanted_op rfl (app_row rfl (.tmp 139) (.tmp 140) rfl w18.heap.size _ xs [8] (some ⟨w19.heap.size, 0, none⟩) 1 1 rfl rfl rfl (H19.out.1 _) (at_new w19 [.int .u8 8] _).row (by have := HXL.out; simp; omega) (by have := H19.out.2.size; simp; omega) ?_)); intro v20 w20 ho20 hb20 _; obtain ⟨A20, c20, rfl⟩ := own_slice ho20; have H20 := Lib.hid (show _ ∧ _ from ⟨ho20, H19.out.2.trans (((Below.refl _ _).alloc H19.out.2.size _).trans hb20)⟩); clear ho20 hb20))
    have hsm : Calls Tryd.prog 18 #[.slice B6 ts.length d6, .slice A20 (xs.length + 1) c20] w20 fun e w' => e = .returned (.bool true) ∧ Drawn0 w20 w' := by
      have hl : ts.length = xs.length + 1 := by rw [HTS.out]; simp
      have h1 := H18.out.1.row (A := B6) (c := d6) (xs := ts) (by simp) rfl
      have h2 := own_row (n := (xs ++ [8]).length) H20.out.1
      rw [← HTS.out] at h2
      have := same_calls w20 B6 A20 ts ts d6 c20 (h1.2.1.below H20.out.2) h2.2.1 h1.2.2
      rw [decide_eq_true rfl] at this
      rwa [show xs.length + 1 = ts.length from hl.symm]
    have HSM := Lib.hid hsm
    have H20' := Lib.hid (show _ ∧ _ from ⟨H18.out.1.below H20.out.2, H18.out.2.trans (H20.out.2.mono H18.out.2.size)⟩)
    clear hsm
    refine HSM.out.mono ?_
    rintro e w21 ⟨rfl, hd⟩
    have H21 := Lib.hid (show _ ∧ _ from ⟨H20'.out.1.below hd.below, H20'.out.2.trans (hd.below.mono H20'.out.2.size)⟩)
    clear hd HSM
    go_wp2_with fail
    refine (H21.out.1.same (A' := B6) (c := d7) (c' := d6) (xs := ts) (by simp) (by simp) rfl).mono ?_
    rintro e w22 ⟨rfl, hd⟩
    have H22 := Lib.hid (show _ ∧ _ from ⟨H21.out.1.below hd.below, H21.out.2.trans (hd.below.mono H21.out.2.size)⟩)
    clear hd
    go_wp2_with fail
    refine (H22.out.1.told (x := h9) (y := h14) (by simp) (by simp) H9.out.2.2.1 H14.out.2.2).mono ?_
    rintro e w23 ⟨rfl, hb⟩
    have H23 := Lib.hid (show _ ∧ _ from ⟨H22.out.1.below hb, H22.out.2.trans (hb.mono H22.out.2.size)⟩)
    clear hb
    go_wp2_with fail
    refine (H23.out.1.told (x := h10) (y := h14) (by simp) (by simp) H10.out.2.2.1 H14.out.2.2).mono ?_
    rintro e w24 ⟨rfl, hb⟩
    have H24 := Lib.hid (show _ ∧ _ ∧ _ from ⟨H23.out.1.below hb, H23.out.2.trans (hb.mono H23.out.2.size), ownsRow_move H2.out.2.2.1 fun k hk => (H23.out.2.trans (hb.mono H23.out.2.size)).block k (own_lt H2.out.2.2.1 k hk)⟩)
    clear hb
    go_wp2_with fail
    go_loopw [23] (fun vi wr => ∃ i : Nat, i ≤ ls.length ∧ vi = .int .i64 i ∧ OwnN wr w1.heap.size (.slice A2 ls.length c2) (fill (fun i => lfN 3 (i : Int)) i ++ ls.drop i) ∧ Led wr w2.heap.size [(⟨A8, xs.length, c8⟩, xs), (⟨A7, xs.length, c7⟩, xs), (⟨B7, ts.length, d7⟩, ts), (⟨A6, xs.length, c6⟩, xs), (⟨B6, ts.length, d6⟩, ts), (⟨A5, xs.length, c5⟩, xs), (⟨A4, xs.length, c4⟩, xs), (⟨A3, xs.length, c3⟩, xs)] [(h10, l10), (h9, l9)] [(h14, l14)] ∧ Below w.heap.size w wr) (fun vi _ => ls.length - (intOf vi).toNat)
    case atStart => exact ⟨0, by omega, rfl, H24.out.2.2, H24.out.1, H2.out.1.trans (H24.out.2.1.mono H2.out.1.size)⟩
    case round =>
      obtain ⟨i, hi, rfl, ho, hL, hb⟩ := hrel
      have HW1 := Lib.hid (show _ ∧ _ ∧ _ from ⟨ho, hL, hb⟩)
      clear ho hL hb
      by_cases hlt : i < ls.length
      · have hil : (i : Int) < (ls.length : Int) := by omega
        have hil2 : i ≤ 131072 := by have := H2.out.2.2.2; omega
        have hcut := fill_cut (fun i => lfN 3 (i : Int)) i ls (by omega)
        obtain ⟨rfl, h0⟩ | ⟨g, rfl, hx⟩ := own_first (show World.ownsRow wr w1.heap.size 46 7 (.slice A2 ls.length c2) _ _ from HW1.out.1)
        · omega
        have hg2 : g < w2.heap.size := own_lt H2.out.2.2.1 g rfl
        have HO := Lib.hid (show _ ∧ _ ∧ _ ∧ _ from ⟨hcut, hlt, hg2, hx.2.1⟩)
        clear hcut hx hg2
        go_wp2_with (((with_reducible refine gate_store (p := 173) rfl ?_); go_loud (refine store_node rfl rfl (.tmp 173) (.tmp 172) rfl i (lfN 3 (i : Int)) rfl rfl (ls := fill (fun i => lfN 3 (i : Int)) i ++ ls.drop i) (c := c2) (by rw [HO.out.1]; exact HW1.out.1) (by rw [HO.out.1]; exact HO.out.2.1) ?_); intro w25 ho25 hb25 hf25; have H25 := Lib.hid (show _ ∧ _ ∧ _ from ⟨ho25, hb25, hf25⟩); clear ho25 hb25 hf25))
        go_roundw
        case rel =>
          refine ⟨i + 1, by omega, by go_num, ?_, HW1.out.2.1.keep H25.out.2.1.size fun q h1 _ _ => H25.out.2.2 q (by have := HO.out.2.2.1; omega), HW1.out.2.2.trans (H25.out.2.1.mono H1.out.size)⟩
          have h := H25.out.1
          rw [HO.out.1, fill_step (fun i => lfN 3 (i : Int)) i ls HO.out.2.1] at h
          exact h
        case measure => simp [intOf]; omega
      · obtain rfl : i = ls.length := by omega
        have ho := HW1.out.1
        rw [List.drop_length, List.append_nil] at ho
        obtain ⟨hg, hwt⟩ := good_fill ho.view.1 (by have := H2.out.2.2.2; omega) (fun i hi => ⟨rfl, rfl, lfN_fit _ _ (by omega) (by have := H2.out.2.2.2; omega)⟩)
        have hcl := codL_len (TT.maps VS.ps (LT.pures (fill (fun i => lfN 3 (i : Int)) ls.length)))
        have hft := flts_fill 3 (fun i => (i : Int)) (by omega) (by omega) ls.length
        generalize hps : TT.maps VS.ps (LT.pures (fill (fun i => lfN 3 (i : Int)) ls.length)) = ps at *
        clear hps
        have hfl := fill_len (fun i => lfN 3 (i : Int)) ls.length
        generalize fill (fun i => lfN 3 (i : Int)) ls.length = fs at *
        have hll : ls.length ≤ 131072 := H2.out.2.2.2
        rw [← hfl]
        have HENF := Lib.hid (fun (w' : World) (hb : Below wr.heap.size wr w') (B : Option Addr) (d : Nat) (hr : Row w' B (rowCells VS.enc fs)) => enc_any (hg.copy hb hr) (by omega) d w' (Below.refl _ _))
        unfold EncPost at HENF
        rw [encS_ok hft, hft] at HENF
        have HCM := Lib.hid (fun (w' : World) (hb : Below wr.heap.size wr w') => cmp_any hg hg c2 c2 w' hb hb)
        unfold CmpP at HCM
        rw [cmpS_3 hft hft, cmpL_self] at HCM
        have HR := Lib.hid (show _ ∧ fs.length ≤ 131072 from ⟨hg.rd.row, by omega⟩)
        have HYL := Lib.hid (show (codL ps).length ≤ 274877906944 by omega)
        generalize codL ps = ys at *
        clear hg hwt hcl hft hfl hll ho hlt hi
        go_wp2_with fail
        refine (HENF.out wr (Below.refl _ _) A2 c2 HR.out.1).mono ?_
        rintro e w25 ⟨A25, c25, rfl, ho25, hb25⟩
        have H25 := Lib.hid (show _ ∧ _ ∧ _ ∧ _ from ⟨HW1.out.2.1.addT hb25 ⟨A25, ys.length, c25⟩ ys rfl ho25, HW1.out.2.2.trans (hb25.mono HW1.out.2.2.size), HR.out.1.below hb25, hb25⟩)
        clear ho25 hb25
        go_wp2_with (((with_reducible refine gate_dst (N := 182) rfl ?_); go_loud (refine copy_nodes rfl (.tmp 180) (.tmp 181) rfl A2 c2 fs rfl rfl H25.out.2.2.1 (by have := HR.out.2; omega) ?_); intro A26 c26 w26 ho26 hb26; have H26 := Lib.hid (show _ ∧ _ ∧ _ ∧ _ from ⟨H25.out.1.below hb26, H25.out.2.1.trans (hb26.mono H25.out.2.1.size), ho26.view.1, H25.out.2.2.2.trans (hb26.mono H25.out.2.2.2.size)⟩); clear ho26 hb26))
        refine (HENF.out w26 H26.out.2.2.2 A26 c26 H26.out.2.2.1).mono ?_
        rintro e w27 ⟨A27, c27, rfl, ho27, hb27⟩
        have H27 := Lib.hid (show _ ∧ _ ∧ _ from ⟨H26.out.1.addT hb27 ⟨A27, ys.length, c27⟩ ys rfl ho27, H26.out.2.1.trans (hb27.mono H26.out.2.1.size), H26.out.2.2.2.trans (hb27.mono H26.out.2.2.2.size)⟩)
        clear ho27 hb27
        go_wp2_with fail
        refine (HCM.out w27 H27.out.2.2).mono ?_
        rintro e w28 ⟨rfl, hb28⟩
        have H28 := Lib.hid (show _ ∧ _ from ⟨H27.out.1.below hb28, H27.out.2.1.trans (hb28.mono H27.out.2.1.size)⟩)
        clear hb28
        go_wp2
        go_loopw [30] (fun vi wr => ∃ (i : Nat) (zs : List Int), i ≤ xs.length ∧ vi = .int .i64 i ∧ zs.length = xs.length ∧ Byt zs ∧ Led wr w2.heap.size [(⟨A27, ys.length, c27⟩, ys), (⟨A25, ys.length, c25⟩, ys), (⟨A8, xs.length, c8⟩, zs), (⟨A7, xs.length, c7⟩, xs), (⟨B7, ts.length, d7⟩, ts), (⟨A6, xs.length, c6⟩, xs), (⟨B6, ts.length, d6⟩, ts), (⟨A5, xs.length, c5⟩, xs), (⟨A4, xs.length, c4⟩, xs), (⟨A3, xs.length, c3⟩, xs)] [(h10, l10), (h9, l9)] [(h14, l14)] ∧ Below w.heap.size w wr) (fun vi _ => xs.length - (intOf vi).toNat)
        case atStart => exact ⟨0, xs, by omega, rfl, rfl, HX.out, H28.out.1, H28.out.2⟩
        case round =>
          obtain ⟨i, zs, hi, rfl, hzl, hzb, hL, hb⟩ := hrel
          have HW2 := Lib.hid (show _ ∧ _ ∧ _ ∧ _ from ⟨hzl, hzb, hL, hb⟩)
          clear hzl hzb hL hb
          have hi2 : i ≤ 274877906944 := by have := HXL.out; omega
          by_cases hlt : i + 1 < xs.length
          · have hil : (i : Int) + 1 < (xs.length : Int) := by omega
            have hil1 : (i : Int) < (xs.length : Int) := by omega
            have hown : wr.ownsRow w2.heap.size 5 1 (.slice A8 xs.length c8) xs.length (nums .u8 zs) := by
              have h := (HW2.out.2.2.1.tx (⟨A8, xs.length, c8⟩, zs) (by simp)).1
              unfold OwnB at h
              rw [HW2.out.1] at h
              exact h
            obtain ⟨rfl, h0⟩ | ⟨g, rfl, hx⟩ := own_first hown
            · omega
            have hat := own_at hown i (by omega) (by omega)
            rw [Int.toNat_natCast] at hat
            obtain ⟨b1, b2⟩ := hat
            have hst := (own_store hown (i : Int) 6).1
            rw [Int.toNat_natCast] at hst
            have HO := Lib.hid (show _ ∧ _ ∧ _ from ⟨hst, hx.2.1, hlt⟩)
            clear hst hx hown
            generalize rd zs i = x at *
            go_wp2_with fail
            go_roundw
            case rel =>
              have hl : (zs.set i 6).length = xs.length := by rw [List.length_set]; exact HW2.out.1
              refine ⟨i + 1, zs.set i 6, by omega, by go_num, hl, ?_, ?_, HW2.out.2.2.2.setCell (p := ⟨g, i, none⟩) (Nat.le_trans H2.out.1.size HO.out.2.1) _⟩
              · intro x hx
                rcases List.mem_or_eq_of_mem_set hx with hx | rfl
                · exact HW2.out.2.1 x hx
                · omega
              · refine HW2.out.2.2.1.put 2 ⟨some ⟨g, 0, none⟩, xs.length, c8⟩ zs (zs.set i 6) rfl hl ?_ (by simp [World.setCell]) (fun b hb => Below.heap_setCell _ _ _ _ fun e => hb (by rw [e]; rfl))
                unfold OwnB
                rw [hl]
                exact HO.out.1
            case measure => simp [intOf]; omega
          · have hil : decide ((i : Int) + 1 < (xs.length : Int)) = false := by simp; omega
            clear hlt hi
            go_upto_region 32 with (fail)
            clear hil
            have HI := Lib.hid hi2
            clear hi2
            by_cases hx0 : xs.length = 0
            case' pos =>
              have e1 : decide (0 < xs.length) = false := decide_eq_false (by omega)
              have HP := HW2
              clear hx0 HW2
              go_upto_region 34 with (fail)
              clear e1
              obtain ⟨wq, hwq⟩ : ∃ wq, wq = wr := ⟨_, rfl⟩
              obtain ⟨zq, hzq⟩ : ∃ zq, zq = zs := ⟨_, rfl⟩
              subst hwq
              subst hzq
            case' neg =>
              have e1 : decide (0 < xs.length) = true := decide_eq_true (by omega)
              have hl1 : (xs.length : Int) - 1 < (xs.length : Int) := by omega
              have hl2 : 0 ≤ (xs.length : Int) - 1 := by omega
              have hl3 : xs.length ≤ 274877906944 := HXL.out
              have hown : wr.ownsRow w2.heap.size 5 1 (.slice A8 xs.length c8) xs.length (nums .u8 zs) := by
                have h := (HW2.out.2.2.1.tx (⟨A8, xs.length, c8⟩, zs) (by simp)).1
                unfold OwnB at h
                rw [HW2.out.1] at h
                exact h
              obtain ⟨rfl, h0⟩ | ⟨g, rfl, hx⟩ := own_first hown
              · omega
              have hat := own_at hown ((xs.length : Int) - 1) (by omega) (by omega)
              have hst := (own_store hown ((xs.length : Int) - 1) 0).1
              rw [show ((xs.length : Int) - 1).toNat = xs.length - 1 by omega] at hat hst
              obtain ⟨b1, b2⟩ := hat
              have hl : (zs.set (xs.length - 1) 0).length = xs.length := by rw [List.length_set]; exact HW2.out.1
              have hby : Byt (zs.set (xs.length - 1) 0) := by
                intro x hx
                rcases List.mem_or_eq_of_mem_set hx with hx | rfl
                · exact HW2.out.2.1 x hx
                · omega
              have HP := Lib.hid (show _ ∧ _ ∧ _ ∧ _ from ⟨hl, hby, HW2.out.2.2.1.put (w' := wr.setCell ⟨g, xs.length - 1, none⟩ (.int .u8 0)) 2 ⟨some ⟨g, 0, none⟩, xs.length, c8⟩ zs (zs.set (xs.length - 1) 0) rfl hl (by unfold OwnB; rw [hl]; exact hst) (by simp [World.setCell]) (fun b hb => Below.heap_setCell _ _ _ _ fun e => hb (by rw [e]; rfl)), HW2.out.2.2.2.setCell (p := ⟨g, xs.length - 1, none⟩) (Nat.le_trans H2.out.1.size hx.2.1) (.int .u8 0)⟩)
              clear hx0 hst hx hown hl hby HW2
              generalize rd zs ((xs.length : Int) - 1) = x at *
              go_upto_region 34 with (fail)
              clear b1 b2 e1 hl1 hl2 hl3
              generalize wr.setCell ⟨g, xs.length - 1, none⟩ (.int .u8 0) = wq at *
              generalize zs.set (xs.length - 1) 0 = zq at *
              generalize (some (⟨g, 0, none⟩ : Addr)) = A8 at *
            all_goals
              obtain ⟨er, n, hz⟩ := dec_gen zq HP.out.2.1 (by rw [HP.out.1]; have := HXL.out; omega)
              rw [HP.out.1] at hz
              have HZ := Lib.hid hz
              clear hz
              go_wp2_with fail
              have hr := HP.out.2.2.1.row (A := A8) (c := c8) (xs := zq) (by simp) HP.out.1.symm
              refine (HZ.out wq A8 c8 hr.2.1 hr.1).mono ?_
              rintro e w34 ⟨h34, l34, hn34, rfl, hd34⟩
              subst hn34
              have H34 := Lib.hid (show _ ∧ _ ∧ _ ∧ _ from ⟨HP.out.2.2.1.addR hd34.below h34 l34 hd34.own hd34.nd hd34.ge, HP.out.2.2.2.trans (hd34.below.mono HP.out.2.2.2.size), hd34.cnt, hd34.tx⟩)
              clear hr hd34
              go_wp2_with (((with_reducible refine gate_dst (N := 218) rfl ?_); go_loud (refine copy_bytes rfl (.tmp 216) (.tmp 217) rfl A8 c8 xs.length zq rfl rfl HP.out.1.symm (H34.out.1.row (A := A8) (c := c8) (xs := zq) (by simp) HP.out.1.symm).2.1 (by rw [HP.out.1]; have := HXL.out; omega) ?_); intro A35 c35 w35 ho35 hb35; have H35 := Lib.hid (show _ ∧ _ ∧ _ from ⟨H34.out.1.below hb35, H34.out.2.1.trans (hb35.mono H34.out.2.1.size), own_row (n := xs.length) (by have h := ho35; unfold OwnB at h; rw [HP.out.1] at h; exact h)⟩); clear ho35 hb35))
              refine (HZ.out w35 A35 c35 H35.out.2.2.2.1 H35.out.2.2.1).mono ?_
              rintro e w36 ⟨h36, l36, hn36, rfl, hd36⟩
              have H36 := Lib.hid (show _ ∧ _ from ⟨H35.out.1.below hd36.below, H35.out.2.1.trans (hd36.below.mono H35.out.2.1.size)⟩)
              clear hn36 hd36 HZ
              go_wp2_with fail
              refine (H36.out.1.same (A := A25) (A' := A27) (c := c25) (c' := c27) (xs := ys) (by simp) (by simp) rfl).mono ?_
              rintro e w37 ⟨rfl, hd⟩
              have H37 := Lib.hid (show _ ∧ _ from ⟨H36.out.1.below hd.below, H36.out.2.trans (hd.below.mono H36.out.2.size)⟩)
              clear hd
              go_wp2_with fail
              refine (H37.out.1.same (A := A3) (A' := A4) (c := c3) (c' := c4) (xs := xs) (by simp) (by simp) rfl).mono ?_
              rintro e w38 ⟨rfl, hd⟩
              have H38 := Lib.hid (show _ ∧ _ from ⟨H37.out.1.below hd.below, H37.out.2.trans (hd.below.mono H37.out.2.size)⟩)
              clear hd
              go_wp2_with fail
              refine (H38.out.1.told (x := h9) (y := h14) (by simp) (by simp) H9.out.2.2.1 H14.out.2.2).mono ?_
              rintro e w39 ⟨rfl, hb⟩
              have H39 := Lib.hid (show _ ∧ _ from ⟨H38.out.1.below hb, H38.out.2.trans (hb.mono H38.out.2.size)⟩)
              clear hb
              go_wp2_with fail
              obtain ⟨⟨fT, hT⟩, ⟨fR, hR⟩, hq1, hq2⟩ := H39.out.1.final
              have HL1 := Lib.hid (show _ ∧ _ from ⟨H9.out.2.2.2.1, H9.out.2.2.2.2⟩)
              have HF := Lib.hid (show _ ∧ _ ∧ _ ∧ _ from ⟨hT, hR, hq1, hq2⟩)
              have HTR := Lib.hid (show _ ∧ _ ∧ _ from ⟨(H39.out.1.tr (h9, l9) (by simp)).rd, (H39.out.1.tr (h10, l10) (by simp)).rd, (H39.out.1.tr (h34, l34) (by simp)).rd⟩)
              have HV := Lib.hid (H39.out.1.tx ((⟨A4, xs.length, c4⟩ : SlH), xs) (by simp)).1
              obtain ⟨nine, hnine⟩ : ∃ nine : List SlH, nine = [⟨A3, xs.length, c3⟩, ⟨A5, xs.length, c5⟩, ⟨A25, ys.length, c25⟩, ⟨A27, ys.length, c27⟩, ⟨A6, xs.length, c6⟩, ⟨B6, ts.length, d6⟩, ⟨A7, xs.length, c7⟩, ⟨B7, ts.length, d7⟩, ⟨A8, xs.length, c8⟩] := ⟨_, rfl⟩
              have h9l : nine.length = 9 := by rw [hnine]; rfl
              have h9n : ∀ s ∈ nine, s.n ≤ 1099511627776 := by
                have h1 := HXL.out
                have h2 := HYL.out
                have h3 : ts.length = xs.length + 1 := by rw [HTS.out]; simp
                rw [hnine]
                intro s hs
                simp only [List.mem_cons, List.not_mem_nil, or_false] at hs
                rcases hs with rfl | rfl | rfl | rfl | rfl | rfl | rfl | rfl | rfl <;> (simp only; omega)
              have H9N := Lib.hid h9n
              clear h9n
              obtain ⟨w40, hw40⟩ : ∃ w40, w40 = w39.alloc (.cells (encs SlH.v nine).toArray 24) := ⟨_, rfl⟩
              have hb40 : Below w39.heap.size w39 w40 := by rw [hw40]; exact (Below.refl _ _).alloc (Nat.le_refl _) _
              have h40 : OwnS 24 w40 w39.heap.size (.slice (some ⟨w39.heap.size, 0, none⟩) 9 9) nine := by
                have h := World.ownsRow_lit (base := w39.heap.size) (e := 24) (size := 1) w39 (encs SlH.v nine).toArray nine.length (Nat.le_refl _) (by simp only [maxLen]; omega) (by simp [encs])
                rw [← hw40] at h
                unfold OwnS
                rw [h9l] at h ⊢
                simpa using h
              have H40 := Lib.hid (show _ ∧ _ ∧ _ from ⟨h40, hb40, h9l⟩)
              refine Eq.mp (congrArg (fun W => Calls Tryd.prog 28 #[.slice h9.A l9.length h9.cap] W _) (hw40.trans (by rw [hnine]; rfl))) ?_
              have HNI := Lib.hid (show txL ⟨A3, xs.length, c3⟩ ⟨A5, xs.length, c5⟩ ⟨A25, ys.length, c25⟩ ⟨A27, ys.length, c27⟩ ⟨A6, xs.length, c6⟩ ⟨B6, ts.length, d6⟩ ⟨A7, xs.length, c7⟩ ⟨B7, ts.length, d7⟩ ⟨A8, xs.length, c8⟩ l9 l10 l34 = ((nine ++ LT.txss l9) ++ LT.txss l10) ++ LT.txss l34 by rw [hnine]; rfl)
              have HLE := Lib.hid (show (LT.txss l9).length ≤ 274877906944 ∧ (LT.txss l10).length ≤ 274877906944 ∧ (LT.txss l34).length ≤ 274877906944 ∧ (LT.rwss l9).length ≤ 274877906944 ∧ (LT.rwss l10).length ≤ 274877906944 ∧ (LT.rwss l34).length ≤ 274877906944 by
                rw [LT.txss_len, LT.txss_len, LT.txss_len, LT.rwss_len, LT.rwss_len, LT.rwss_len]
                have h1 := H9.out.2.2.2.1
                have h2 := H10.out.2.2.2.1
                have h3 := H34.out.2.2.1
                have h4 := HP.out.1
                have h5 := HXL.out
                omega)
              clear hT hR hq1 hq2 h40 hb40 h9l hnine hw40 HL1
              refine (lists_all (LT.cnts l9) w40 h9.A h9.cap l9 (Nat.le_refl _) (HTR.out.1.1.below H40.out.2.1) (by have := HLE.out.1; rw [LT.txss_len] at this; omega)).mono ?_
              rintro e w41 ⟨A41, c41, rfl, ho41, hb41⟩
              have H41 := Lib.hid (show _ ∧ _ ∧ _ from ⟨ho41.row rfl, own_belowS H40.out.1 hb41, H40.out.2.1.trans (hb41.mono H40.out.2.1.size)⟩)
              clear ho41 hb41
              go_wp2_with (((with_reducible refine gate_dst (N := 279) rfl ?_); go_loud (refine app_sls rfl (.tmp 276) (.tmp 278) 24 (.inl rfl) rfl w39.heap.size _ 9 9 nine (LT.txss l9) A41 (LT.txss l9).length c41 rfl rfl H41.out.2.1 H40.out.2.2.symm rfl H41.out.1 (by have := HLE.out.1; have := H40.out.2.2; omega) H41.out.2.2.size ?_); intro A42 c42 w42 ho42 hb42; have H42 := Lib.hid (show _ ∧ _ from ⟨ho42, H41.out.2.2.trans hb42⟩); clear ho42 hb42))
              refine (lists_all (LT.cnts l10) w42 h10.A h10.cap l10 (Nat.le_refl _) (HTR.out.2.1.1.below H42.out.2) (by have := HLE.out.2.1; rw [LT.txss_len] at this; omega)).mono ?_
              rintro e w43 ⟨A43, c43, rfl, ho43, hb43⟩
              have H43 := Lib.hid (show _ ∧ _ ∧ _ from ⟨ho43.row rfl, own_belowS H42.out.1 hb43, H42.out.2.trans (hb43.mono H42.out.2.size)⟩)
              clear ho43 hb43
              go_wp2_with (((with_reducible refine gate_dst (N := 283) rfl ?_); go_loud (refine app_sls rfl (.tmp 280) (.tmp 282) 24 (.inl rfl) rfl w39.heap.size _ (9 + (LT.txss l9).length) c42 (nine ++ LT.txss l9) (LT.txss l10) A43 (LT.txss l10).length c43 rfl rfl H43.out.2.1 (by rw [List.length_append, H40.out.2.2]) rfl H43.out.1 (by have := HLE.out.1; have := HLE.out.2.1; have := H40.out.2.2; rw [List.length_append]; omega) H43.out.2.2.size ?_); intro A44 c44 w44 ho44 hb44; have H44 := Lib.hid (show _ ∧ _ from ⟨ho44, H43.out.2.2.trans hb44⟩); clear ho44 hb44))
              refine (lists_all (LT.cnts l34) w44 h34.A h34.cap l34 (Nat.le_refl _) (HTR.out.2.2.1.below H44.out.2) (by have := HLE.out.2.2.1; rw [LT.txss_len] at this; omega)).mono ?_
              rintro e w45 ⟨A45, c45, rfl, ho45, hb45⟩
              have H45 := Lib.hid (show _ ∧ _ ∧ _ from ⟨ho45.row rfl, own_belowS H44.out.1 hb45, H44.out.2.trans (hb45.mono H44.out.2.size)⟩)
              clear ho45 hb45
              go_wp2_with (((with_reducible refine gate_dst (N := 287) rfl ?_); go_loud (refine app_sls rfl (.tmp 284) (.tmp 286) 24 (.inl rfl) rfl w39.heap.size _ (9 + (LT.txss l9).length + (LT.txss l10).length) c44 ((nine ++ LT.txss l9) ++ LT.txss l10) (LT.txss l34) A45 (LT.txss l34).length c45 rfl rfl H45.out.2.1 (by rw [List.length_append, List.length_append, H40.out.2.2]) rfl H45.out.1 (by have := HLE.out.1; have := HLE.out.2.1; have := HLE.out.2.2.1; have := H40.out.2.2; rw [List.length_append, List.length_append]; omega) H45.out.2.2.size ?_); intro A46 c46 w46 ho46 hb46; have H46 := Lib.hid (show _ ∧ _ from ⟨ho46, H45.out.2.2.trans hb46⟩); clear ho46 hb46))
              refine (rowsOf_all (LT.cnts l9) w46 h9.A h9.cap l9 (Nat.le_refl _) (HTR.out.1.1.below H46.out.2) (by have := HLE.out.1; rw [LT.txss_len] at this; omega)).mono ?_
              rintro e w47 ⟨A47, c47, rfl, ho47, hb47⟩
              have H47 := Lib.hid (show _ ∧ _ ∧ _ from ⟨ho47, H46.out.2.trans (hb47.mono H46.out.2.size), hb47⟩)
              clear ho47 hb47
              go_wp2_with fail
              refine (rowsOf_all (LT.cnts l10) w47 h10.A h10.cap l10 (Nat.le_refl _) (HTR.out.2.1.1.below H47.out.2.1) (by have := HLE.out.2.1; rw [LT.txss_len] at this; omega)).mono ?_
              rintro e w48 ⟨A48, c48, rfl, ho48, hb48⟩
              have H48 := Lib.hid (show _ ∧ _ ∧ _ ∧ _ from ⟨ho48.row rfl, (show OwnS 28 w48 w46.heap.size _ _ from own_belowS H47.out.1 hb48), H47.out.2.1.trans (hb48.mono H47.out.2.1.size), H47.out.2.2.trans (hb48.mono H47.out.2.2.size)⟩)
              clear ho48 hb48
              go_wp2_with (((with_reducible refine gate_dst (N := 292) rfl ?_); go_loud (refine app_sls rfl (.tmp 289) (.tmp 291) 28 (.inr rfl) rfl w46.heap.size _ ((LT.rwss l9).length + 1) c47 (hdS h9 l9 :: LT.rwss l9) (hdS h10 l10 :: LT.rwss l10) A48 ((LT.rwss l10).length + 1) c48 rfl rfl H48.out.2.1 rfl rfl H48.out.1 (by have := HLE.out.2.2.2.1; have := HLE.out.2.2.2.2.1; simp only [List.length_cons]; omega) H48.out.2.2.2.size ?_); intro A49 c49 w49 ho49 hb49; have H49 := Lib.hid (show _ ∧ _ ∧ _ from ⟨ho49, H48.out.2.2.1.trans (hb49.mono H46.out.2.size), H48.out.2.2.2.trans hb49⟩); clear ho49 hb49))
              refine (rowsOf_all (LT.cnts l34) w49 h34.A h34.cap l34 (Nat.le_refl _) (HTR.out.2.2.1.below H49.out.2.1) (by have := HLE.out.2.2.1; rw [LT.txss_len] at this; omega)).mono ?_
              rintro e w50 ⟨A50, c50, rfl, ho50, hb50⟩
              have H50 := Lib.hid (show _ ∧ _ ∧ _ ∧ _ from ⟨ho50.row rfl, (show OwnS 28 w50 w46.heap.size _ _ from own_belowS H49.out.1 hb50), H49.out.2.1.trans (hb50.mono H49.out.2.1.size), H49.out.2.2.trans (hb50.mono H49.out.2.2.size)⟩)
              clear ho50 hb50
              go_wp2_with (((with_reducible refine gate_dst (N := 296) rfl ?_); go_loud (refine app_sls rfl (.tmp 293) (.tmp 295) 28 (.inr rfl) rfl w46.heap.size _ ((LT.rwss l9).length + 1 + ((LT.rwss l10).length + 1)) c49 ((hdS h9 l9 :: LT.rwss l9) ++ (hdS h10 l10 :: LT.rwss l10)) (hdS h34 l34 :: LT.rwss l34) A50 ((LT.rwss l34).length + 1) c50 rfl rfl H50.out.2.1 (by simp; omega) rfl H50.out.1 (by have := HLE.out.2.2.2.1; have := HLE.out.2.2.2.2.1; have := HLE.out.2.2.2.2.2; simp only [List.length_cons, List.length_append]; omega) H50.out.2.2.2.size ?_); intro A51 c51 w51 ho51 hb51; have H51 := Lib.hid (show _ ∧ _ ∧ _ from ⟨ho51, H50.out.2.2.1.trans (hb51.mono H46.out.2.size), H50.out.2.2.2.trans hb51⟩); clear ho51 hb51))
              have h3951 : Below w39.heap.size w39 w51 := H51.out.2.1
              have hN39 : w2.heap.size ≤ w39.heap.size := H39.out.1.hN
              have hto : OwnS 24 w51 w39.heap.size _ _ := own_belowS H46.out.1 H51.out.2.2
              obtain ⟨_, h0⟩ | ⟨gA, hgA, hgl, hgb, hgn⟩ := own_first (show World.ownsRow w51 w39.heap.size 24 1 (.slice A46 (9 + (LT.txss l9).length + (LT.txss l10).length + (LT.txss l34).length) c46) _ _ from hto)
              · simp [H40.out.2.2] at h0
              have hro := hto.row hgn
              obtain ⟨_, h0⟩ | ⟨gR, hgR, hRl, hRb, hRn⟩ := own_first (show World.ownsRow w51 w46.heap.size 28 1 (.slice A51 ((LT.rwss l9).length + 1 + ((LT.rwss l10).length + 1) + ((LT.rwss l34).length + 1)) c51) _ _ from H51.out.1)
              · simp at h0
              have hq1 := HF.out.2.2.1
              have hq2 := HF.out.2.2.2
              have hT := HF.out.1.below h3951
              rw [HNI.out] at hq1 hq2 hT
              have HB := Lib.hid (show _ ∧ _ ∧ _ ∧ _ ∧ _ from ⟨hq1, hq2, hgb, hRb, hN39⟩)
              have hle : ∀ s ∈ ((nine ++ LT.txss l9) ++ LT.txss l10) ++ LT.txss l34, s.n ≤ 1099511627776 := by
                intro s hs
                have h1 := HXL.out
                have h2 := HP.out.1
                rcases List.mem_append.1 hs with hs | hs
                · rcases List.mem_append.1 hs with hs | hs
                  · rcases List.mem_append.1 hs with hs | hs
                    · exact H9N.out s hs
                    · have := H9.out.2.2.2.2 s hs; omega
                  · have := H10.out.2.2.2.2 s hs; omega
                · have := H34.out.2.2.2 s hs; omega
              have hap := apart_calls w51 gA c46 (((nine ++ LT.txss l9) ++ LT.txss l10) ++ LT.txss l34) w2.heap.size fT (by rw [hgA] at hro; exact hro) (by have := HLE.out.1; have := HLE.out.2.1; have := HLE.out.2.2.1; have := H40.out.2.2; simp only [List.length_append]; omega) hT
                (unlike_of (fun q => by have := hq1 q; omega) (fun h => by have := hq2 gA (.inl h); omega)) (fun j s hj => hle s (List.mem_of_getElem? hj)) (Nat.le_trans hN39 h3951.size) (Nat.le_trans hN39 hgb)
              rw [← hgn] at hap
              have HAP := Lib.hid hap
              have HRR := Lib.hid (show _ ∧ _ ∧ _ from ⟨hgR, hRl, hRn⟩)
              subst hgA
              clear hap hle hq1 hq2 hT hro hgl hgb hgn hgR hRl hRb hRn hto hN39 h3951
              refine HAP.out.mono ?_
              rintro e w52 ⟨rfl, hb52, ho52⟩
              have h3946 : w39.heap.size ≤ w46.heap.size := H46.out.2.size
              have hN39 := HB.out.2.2.2.2
              have hR52 : OwnS 28 w52 w46.heap.size _ _ := ownsRow_move H51.out.1 fun k hk => ho52.ids (own_lt H51.out.1 k hk) fun hm => by
                have h1 := HB.out.2.1 k (.inl hm)
                have h2 := own_base H51.out.1 k hk
                omega
              have hnd : NdInv w52 w2.heap.size (rwL h9 h10 h34 l9 l10 l34) fR := (HF.out.2.1.move fun q hq _ => H51.out.2.1.block q hq).move fun q hq hm => ho52.ids hq fun hm2 => by
                have h1 := HB.out.1 q
                have h2 := List.count_pos_iff.2 hm
                have h3 := List.count_pos_iff.2 hm2
                omega
              have hle : ∀ s ∈ rwL h9 h10 h34 l9 l10 l34, s.n ≤ 549755813888 := by
                intro s hs
                have h1 := HXL.out
                have h2 := HP.out.1
                have k1 := H9.out.2.2.2.1
                have k2 := H10.out.2.2.2.1
                have k3 := H34.out.2.2.1
                have g : ∀ (h : Hdr) (l : List (LT VS)), s ∈ hdS h l :: LT.rwss l → s.n ≤ LT.cnts l := by
                  intro h l hs
                  rcases List.mem_cons.1 hs with rfl | hs
                  · exact LT.len_cnts l
                  · exact LT.rwss_le l s hs
                rcases List.mem_append.1 hs with hs | hs
                · rcases List.mem_append.1 hs with hs | hs
                  · have := g h9 l9 hs; omega
                  · have := g h10 l10 hs; omega
                · have := g h34 l34 hs; omega
              have hro := hR52.row HRR.out.2.2
              rw [HRR.out.1] at hro
              have hpa := parted_calls w52 gR c51 (rwL h9 h10 h34 l9 l10 l34) w2.heap.size fR hro (by have := HLE.out.2.2.2.1; have := HLE.out.2.2.2.2.1; have := HLE.out.2.2.2.2.2; simp only [rwL, List.length_append, List.length_cons]; omega) hnd
                (unlike_of (fun q => by have := HB.out.1 q; omega) (fun h => by have := HB.out.2.1 gR (.inr (.inl h)); have := HB.out.2.2.2.1; omega)) (fun j s hj => hle s (List.mem_of_getElem? hj)) (Nat.le_trans hN39 (Nat.le_trans H51.out.2.1.size hb52.size)) (by have := HB.out.2.2.2.1; omega)
              have hrn : (rwL h9 h10 h34 l9 l10 l34).length = (LT.rwss l9).length + 1 + ((LT.rwss l10).length + 1) + ((LT.rwss l34).length + 1) := HRR.out.2.2.symm
              rw [hrn] at hpa
              have hw52 : OwnB w52 w2.heap.size (.slice A4 xs.length c4) xs := ownsRow_move (OwnB.keep HV.out H51.out.2.1) fun k hk => ho52.ids (own_lt (OwnB.keep HV.out H51.out.2.1) k hk) fun hm => by
                have h1 := HB.out.1 k
                have h2 := List.count_pos_iff.2 (SlH.mem_ids (s := ⟨A4, xs.length, c4⟩) hk)
                have h3 := List.count_pos_iff.2 hm
                omega
              have HPA := Lib.hid hpa
              have H52 := Lib.hid (show _ ∧ _ from ⟨hw52, (H39.out.2.trans (H51.out.2.1.mono H39.out.2.size)).trans (hb52.mono H2.out.1.size)⟩)
              clear hb52 ho52 h3946 hN39 hR52 hnd hle hro hpa hrn hw52 HAP
              rw [HRR.out.1]
              go_wp2_with fail
              refine HPA.out.mono ?_
              rintro e w53 ⟨rfl, hb53, ho53⟩
              have hw53 : OwnB w53 w2.heap.size (.slice A4 xs.length c4) xs := ownsRow_move H52.out.1 fun k hk => ho53.ids (own_lt H52.out.1 k hk) fun hm => by
                have h1 := HB.out.1 k
                have h2 := List.count_pos_iff.2 (SlH.mem_ids (s := ⟨A4, xs.length, c4⟩) hk)
                have h3 := List.count_pos_iff.2 hm
                omega
              have H53 := Lib.hid (show _ ∧ _ from ⟨hw53, H52.out.2.trans (hb53.mono H2.out.1.size)⟩)
              clear hw53 hb53 ho53 HPA
              go_wp2_with fail
              refine (val_any w A c ms H0.out.1 H0.out.2.1 (by have := HW.out.1; omega) w53 H53.out.2).mono ?_
              rintro e w54 ⟨A54, l54, c54, rfl, hg54, hb54⟩
              have HEN := Lib.hid (HENX.out w54 A54 l54 c54 hg54)
              have H54 := Lib.hid (show _ ∧ _ from ⟨OwnB.keep H53.out.1 hb54, H53.out.2.trans (hb54.mono H53.out.2.size)⟩)
              clear hg54 hb54
              go_wp2_with fail
              refine HEN.out.mono ?_
              rintro e w55 ⟨A55, c55, rfl, ho55, hb55⟩
              have H55 := Lib.hid (show _ ∧ _ ∧ _ from ⟨OwnB.keep H54.out.1 hb55, H54.out.2.trans (hb55.mono H54.out.2.size), ho55⟩)
              clear ho55 hb55 HEN
              go_wp2_with fail
              have hsm := same_calls w55 A55 A4 xs xs c55 c4 (own_row H55.out.2.2).2.1 (own_row H55.out.1).2.1 (own_row H55.out.1).2.2
              rw [decide_eq_true rfl] at hsm
              refine hsm.mono ?_
              rintro e w56 ⟨rfl, hd⟩
              have H56 := Lib.hid (show _ ∧ _ from ⟨OwnB.keep H55.out.1 hd.below, H55.out.2.1.trans (hd.below.mono H55.out.2.1.size)⟩)
              clear hsm hd
              go_wp2_with fail
              refine (anew_calls w56 A ms c (H0.out.1.below H56.out.2) H0.out.2.1 HW.out.1 A4 xs c4 (own_row H56.out.1).2.1 HX.out (by have := HXL.out; omega)).mono ?_
              rintro e w57 ⟨rfl, hb57⟩
              have H57 := Lib.hid (H56.out.2.trans (hb57.mono H56.out.2.size))
              clear hb57
              go_wp2_with fail
              refine (placed_calls w57 A ms c (H0.out.1.below H57.out) H0.out.2.1 HW.out.1 B us d (H0.out.2.2.1.below H57.out) H0.out.2.2.2 HW.out.2.1).mono ?_
              rintro e w58 ⟨rfl, hb58⟩
              have H58 := Lib.hid (H57.out.trans (hb58.mono H57.out.size))
              clear hb58
              go_wp2
              go_ret
              exact ⟨rfl, H58.out⟩
end Go.Proofs.YtplfmpcoojkjlaaDoor
