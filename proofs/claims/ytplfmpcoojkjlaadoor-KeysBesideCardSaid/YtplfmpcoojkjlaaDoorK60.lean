/- The walk of KeysBeside. -/
import Derived.Test.YtplfmpcoojkjlaaDoorK59
namespace Go.Proofs.YtplfmpcoojkjlaaDoor
open Go.RowKit Go.Proofs.YtplfmpcoojkjlaaDoorW.PrintWords
set_option maxRecDepth 100000 in
/-- append(v, row...) of nodes, wherever the row lies. -/
theorem app_listP {ops : Array Oper} {rest : List Oper} {o : Oper} {a : Act} {Q : Exit → Act → World → Prop} {W : World} (hgd : o.guard = none) (s x : Operand)
    (ho : o.op = .call { callee := .builtin .append, args := #[s, x], argTypes := #[22, 22] }) (base : Nat) (v : Value) (n : Nat) (xs ys : List Value) (A : Option Addr) (m c : Nat) (hs : a.eval s = v) (hx : a.eval x = .slice A m c) (hl : ys.length = m * 7) (h1 : ∀ u ∈ ys, u.oneCell' = true)
    (own : W.ownsRow base 69 7 v n xs) (at_ : Row W A ys) (hb : n + m ≤ 1099511627776) (hbase : base ≤ W.heap.size)
    (h : ∀ v1 w1, w1.ownsRow base 69 7 v1 (n + m) (xs ++ ys) → Below base W w1 → (v1.ownBlock = v.ownBlock ∨ v1.ownBlock = some W.heap.size) → wpList Tryd.prog ops Q rest (a.put o.dst v1) w1) :
    wpList Tryd.prog ops Q (o :: rest) a W := by
  obtain ⟨i0, hi, hzz⟩ := Option.map_eq_some_iff.1 infoP
  simp only [Prod.mk.injEq] at hzz
  obtain ⟨hz0, hz1, hz2⟩ := hzz
  have ht := Tryd.underlying22
  have hrun : ∃ v1 w1, (Builtin.append_ #[22, 22] o.type #[v, .slice A m c]).run Tryd.prog W = .ok v1 w1 ∧ w1.ownsRow base 69 7 v1 (n + m) (xs ++ ys) ∧ W.grownBy w1 v.ownBlock ∧ (v1.ownBlock = v.ownBlock ∨ v1.ownBlock = some W.heap.size) := by
    rcases A with _ | ad
    · have h0 : ys = [] := by
        rcases at_ with h0 | ⟨b, o, h0, _⟩
        · exact h0
        · cases h0
      subst h0
      obtain rfl : m = 0 := by simp at hl; omega
      refine ⟨v, W, ?_, by simpa using own, World.grownBy.refl W _, .inl rfl⟩
      rcases own.2 with ⟨rfl, hn⟩ | ⟨g, cap, cur, rfl, _, _, hnc, _⟩
      · simp [Builtin.append_, run_underlying ht, sizeOf, typeInfo, hi, Builtin.lenOf, Builtin.firstCells]
      · simp [Builtin.append_, run_underlying ht, sizeOf, typeInfo, hi, Builtin.lenOf, Builtin.firstCells, hnc, storeCells]
    · have hcells : ∀ j u, ys[j]? = some u → W.cell? (ad.add j) = some u := by
        intro j u hu
        rcases at_ with h0 | ⟨b, o, h0, _, hc⟩
        · subst h0; simp at hu
        · injection h0 with h0
          subst h0
          rw [add_plain0]
          exact hc j u hu
      obtain ⟨v1, w1, hr, h2, h3, _, h5⟩ := run_append_own_at (P := Tryd.prog) W base 22 o.type 69 i0 _ 7 88 ht hi hz0 hz1 hz2 rfl (by omega) v n xs own ad m c ys hl hcells h1 (by simp only [maxLen]; omega) (by omega) hbase
      exact ⟨v1, w1, hr, h2, h3, h5⟩
  obtain ⟨v1, w1, hr, hown, hg, hat⟩ := hrun
  refine wpList_plain hgd fun K hK => ?_
  unfold Oper.wp execOp
  simp only [ho, resolve, invoke, builtin, Sem.run_bind, Sem.run_pure, Result.andThen_ok, List.map_toArray, List.map_cons, List.map_nil, hs, hx, hr]
  exact hK _ _ (h v1 w1 hown ((Below.refl base W).grown hg hbase (own_base own)) hat)
theorem rowCells_oneP (ls : List (LT PS)) : ∀ u ∈ rowCells PS.enc ls, u.oneCell' = true := by
  intro u hu
  obtain ⟨l, _, hu⟩ := List.mem_flatMap.1 hu
  exact LT.cells_oneP l u hu
theorem TT.alls_app {σ : Type} {P : σ → List Int → Prop} : ∀ (ps qs : List (TT σ)), TT.alls P (ps ++ qs) ↔ TT.alls P ps ∧ TT.alls P qs
  | [], qs => by simp [TT.alls]
  | p :: ps, qs => by simp only [List.cons_append, TT.alls, TT.alls_app ps qs, and_assoc]
theorem TT.wts_app {σ : Type} : ∀ (ps qs : List (TT σ)), TT.wts (ps ++ qs) = TT.wts ps + TT.wts qs
  | [], qs => by simp [TT.wts]
  | p :: ps, qs => by simp only [List.cons_append, TT.wts, TT.wts_app ps qs]; omega
theorem LT.pures_take {σ : Type} (ls : List (LT σ)) (k : Nat) : LT.pures (ls.take k) = (LT.pures ls).take k := by rw [LT.pures_map, LT.pures_map, List.map_take]
theorem LT.pures_append {σ : Type} (ls ms : List (LT σ)) : LT.pures (ls ++ ms) = LT.pures ls ++ LT.pures ms := by rw [LT.pures_map, LT.pures_map, LT.pures_map, List.map_append]
theorem TT.flts_take : ∀ (ps : List (TT PS)) (d k : Nat), TT.flts PS.kind ps d = 0 → TT.flts PS.kind (ps.take k) d = 0
  | [], _, k, _ => by simp [TT.flts]
  | p :: ps, _, 0, _ => by simp [TT.flts]
  | p :: ps, d, k + 1, h => by
    obtain ⟨h1, h2⟩ := flts_cons h
    simp only [List.take_succ_cons, TT.flts]
    rw [if_pos h1]
    exact TT.flts_take ps d k h2
/-- What the law holds against each other: within the span, and beginning with the row. -/
theorem beside_spec (rs us : List (TT PS)) (hr : TT.flts PS.kind rs 0 = 0) (hu : TT.flts PS.kind us 0 = 0) (fr : TT.alls PS.fits rs) (fu : TT.alls PS.fits us) :
    (decide (cmpX (codL rs) (codL us) ≤ 0) && decide (cmpX (codL us) (codL rs ++ [8]) < 0)) = (if rs.length ≤ us.length then decide (cmpL rs (us.take rs.length) = 0) else false) := by
  have h := span_iff rs us hr hu fr fu
  by_cases hl : rs.length ≤ us.length
  · rw [if_pos hl]
    rw [Bool.eq_iff_iff]
    simp only [Bool.and_eq_true, decide_eq_true_eq]
    rw [h]
    exact ⟨fun k => k.2, fun k => ⟨hl, k⟩⟩
  · rw [if_neg hl, Bool.eq_false_iff]
    simp only [ne_eq, Bool.and_eq_true, decide_eq_true_eq]
    rw [h]
    exact fun k => hl k.1
theorem joined_spec (rs us : List (TT PS)) (hr : TT.flts PS.kind rs 0 = 0) (fr : TT.alls PS.fits rs) : cmpL rs ((rs ++ us).take rs.length) = 0 := by
  rw [List.take_left, ← cmp_codL rs rs 0 0 hr hr fr fr]
  exact cmpX_self _
set_option maxRecDepth 100000 in
set_option maxHeartbeats 16000000 in
theorem beside_calls (w : World) (A : Option Addr) (ms : List (LT PS)) (c : Nat) (hA : RdL PS.enc w A ms) (hfm : TT.alls PS.fits (LT.pures ms)) (B : Option Addr) (us : List (LT PS)) (d : Nat) (hB : RdL PS.enc w B us) (hfu : TT.alls PS.fits (LT.pures us)) (hd : us.length ≤ d) (j : Bool) :
    Calls Tryd.prog 10 #[.slice A ms.length c, .slice B us.length d, .bool j] w fun e w' => e = .returned (.bool true) ∧ Below w.heap.size w w' := by
  obtain ⟨bb, hbb, hwt⟩ := beyond_any w A c ms hA
  obtain ⟨b2, hbb2, hwt2⟩ := beyond_any w B d us hB
  have HD := Lib.hid hd
  clear hd
  have HBA := Lib.hid hbb
  have HBB := Lib.hid hbb2
  have H0 := Lib.hid (show _ ∧ _ ∧ _ ∧ _ from ⟨hA, hfm, hB, hfu⟩)
  clear hA hfm hB hfu hbb hbb2
  cases bb
  case true =>
    clear hwt hwt2 HBB
    go_enter Tryd.func10, Tryd.ntmps10
    go_wp2_with fail
    refine (HBA.out _ (Below.refl _ _)).mono ?_
    rintro e w' ⟨rfl, hw'⟩
    rw [← hw']
    clear hw' w'
    go_wp2
    go_ret
    exact ⟨rfl, Below.refl _ _⟩
  cases b2
  case true =>
    clear hwt hwt2
    go_enter Tryd.func10, Tryd.ntmps10
    go_wp2_with fail
    refine (HBA.out _ (Below.refl _ _)).mono ?_
    rintro e w' ⟨rfl, hw'⟩
    rw [← hw']
    clear hw' w'
    go_wp2_with fail
    refine (HBB.out _ (Below.refl _ _)).mono ?_
    rintro e w' ⟨rfl, hw'⟩
    rw [← hw']
    clear hw' w'
    go_wp2
    go_ret
    exact ⟨rfl, Below.refl _ _⟩
  have hw1 := hwt rfl
  have hw2 := hwt2 rfl
  have HW := Lib.hid (show TT.wts (LT.pures ms) ≤ 131072 ∧ TT.wts (LT.pures us) ≤ 131072 from ⟨hw1, hw2⟩)
  clear hw1 hw2 hwt hwt2
  go_enter Tryd.func10, Tryd.ntmps10
  go_wp2_with fail
  refine (HBA.out _ (Below.refl _ _)).mono ?_
  rintro e w' ⟨rfl, hw'⟩
  rw [← hw']
  clear hw' w'
  go_wp2_with fail
  refine (HBB.out _ (Below.refl _ _)).mono ?_
  rintro e w' ⟨rfl, hw'⟩
  rw [← hw']
  clear hw' w' HBA HBB
  go_wp2_with fail
  refine (awake_calls w).mono ?_
  rintro e w1 ⟨rfl, hb1⟩
  have H1 := Lib.hid hb1
  clear hb1
  cases j
  case' true =>
    go_upto_region 6 with (fail)
    have own1 : (w1.alloc (.cells #[] 69)).ownsRow w1.heap.size 69 7 (.slice (some ⟨w1.heap.size, 0, none⟩) 0 0) 0 [] := by
      have := World.ownsRow_lit (base := w1.heap.size) (e := 69) (size := 7) w1 #[] 0 (Nat.le_refl _) (Nat.zero_le _) rfl
      simpa using this
    have bel1 : Below w1.heap.size w1 (w1.alloc (.cells #[] 69)) := (Below.refl _ _).alloc (Nat.le_refl _) _
    have hlm : ms.length ≤ 131072 ∧ us.length ≤ 131072 := by
      have h1 := TT.wts_len (LT.pures ms)
      have h2 := TT.wts_len (LT.pures us)
      rw [LT.pures_length] at h1 h2
      have := HW.out
      omega
    have H2 := Lib.hid (show _ ∧ _ ∧ _ ∧ _ from ⟨own1, bel1, hlm, H0.out.1.1.below (H1.out.trans (bel1.mono H1.out.size))⟩)
    clear own1 bel1 hlm
    go_wp2_with (first | ((with_reducible refine gate_dst (N := 27) rfl ?_); go_loud (refine app_listP rfl (.tmp 25) (.tmp 26) rfl w1.heap.size _ 0 [] (rowCells PS.enc ms) A ms.length c rfl rfl (rowCells_length PS.enc5 ms) (rowCells_oneP ms) H2.out.1 H2.out.2.2.2 (by have := H2.out.2.2.1; omega) H2.out.2.1.size ?_); intro v2 w2 ho2' hb2 hx2; clear hx2; have ho2 : w2.ownsRow w1.heap.size 69 7 v2 ms.length (rowCells PS.enc ms) := by { have h := ho2'; rw [Nat.zero_add] at h; exact h }; have H3 := Lib.hid (show _ ∧ _ ∧ _ ∧ _ from ⟨ho2, H2.out.2.1.trans hb2, own_slice ho2, H0.out.2.2.1.1.below (H1.out.trans ((H2.out.2.1.trans hb2).mono H1.out.size))⟩); clear ho2 ho2' hb2; obtain ⟨A2, c2, rfl⟩ := H3.out.2.2.1) | ((with_reducible refine gate_dst (N := 29) rfl ?_); go_loud (refine app_listP rfl (.tmp 27) (.tmp 28) rfl w1.heap.size _ ms.length _ (rowCells PS.enc us) B us.length d rfl rfl (rowCells_length PS.enc5 us) (rowCells_oneP us) H3.out.1 H3.out.2.2.2 (by have := H2.out.2.2.1; omega) H3.out.2.1.size ?_); intro v3 w3 ho3 hb3 hx3; clear hx3; have H4 := Lib.hid (show _ ∧ _ ∧ _ from ⟨ho3, H3.out.2.1.trans hb3, own_slice ho3⟩); clear ho3 hb3; obtain ⟨A3, c3, rfl⟩ := H4.out.2.2))
    have HU := Lib.hid (show RdL PS.enc w3 A3 (ms ++ us) ∧ TT.alls PS.fits (LT.pures (ms ++ us)) ∧ TT.wts (LT.pures (ms ++ us)) ≤ 262144 ∧ (ms ++ us).length ≤ c3 ∧ Below w.heap.size w w3 ∧ (true = true → LT.pures (ms ++ us) = LT.pures ms ++ LT.pures us) by
      have hb3 : Below w.heap.size w w3 := H1.out.trans (H4.out.2.1.mono H1.out.size)
      have ho := own_row H4.out.1
      have hl := H2.out.2.2.1
      refine ⟨⟨by rw [rowCells_append]; exact ho.2.1, fun p hp => ?_, by rw [List.length_append]; omega⟩, by rw [LT.pures_append, TT.alls_app]; exact ⟨H0.out.2.1, H0.out.2.2.2⟩, by rw [LT.pures_append, TT.wts_app]; have := HW.out; omega, by rw [List.length_append]; exact ho.1, hb3, fun _ => LT.pures_append _ _⟩
      rcases List.mem_append.1 hp with hp | hp
      · exact (H0.out.1.below hb3).all p hp
      · exact (H0.out.2.2.1.below hb3).all p hp)
    have htn : (ms ++ us).length = ms.length + us.length := List.length_append
    clear H2 H3 H4
    generalize ms ++ us = ts at *
    generalize ms.length + us.length = tn at *
    have HT := Lib.hid htn
    clear htn
    refine (val_any w A c ms H0.out.1 H0.out.2.1 (by have := HW.out; omega) w3 HU.out.2.2.2.2.1).mono ?_
    rintro e w4 ⟨A4, l4, c4, rfl, hg4, hb4⟩
    have hcr := codL_len (LT.pures ms)
    have hcu := codL_len (LT.pures ts)
    have HC := Lib.hid (show (codL (LT.pures ms)).length ≤ 1099511627775 ∧ (codL (LT.pures ts)).length ≤ 1099511627775 from ⟨by have := HW.out; omega, by have := HU.out.2.2.1; omega⟩)
    clear hcr hcu
    have hsp := span_any hg4 HC.out.1 c4 w4 (Below.refl _ _)
    unfold SpanPost at hsp
    have HSP := Lib.hid hsp
    have H5 := Lib.hid (show _ ∧ _ from ⟨hb4, HU.out.2.2.2.2.1.trans (hb4.mono HU.out.2.2.2.2.1.size)⟩)
    clear hsp hg4 hb4
    go_wp2_with fail
    refine HSP.out.mono ?_
    rintro e w5 ⟨A5, c5, B5, d5, rfl, ho5, hp5, _, hb5⟩
    have hx5 : Below w3.heap.size w3 w5 := H5.out.1.trans (hb5.mono H5.out.1.size)
    have H6 := Lib.hid (show _ ∧ _ ∧ _ ∧ _ from ⟨own_row ho5, own_row hp5, hx5, H5.out.2.trans (hb5.mono H5.out.2.size)⟩)
    clear HSP ho5 hp5 hb5 hx5
    go_wp2_with fail
    have hv := val_any w3 A3 c3 ts HU.out.1 HU.out.2.1 (by have := HU.out.2.2.1; omega) w5 H6.out.2.2.1
    rw [HT.out] at hv
    have HV := Lib.hid hv
    clear hv
    refine HV.out.mono ?_
    rintro e w6 ⟨A6, l6, c6, rfl, hg6, hb6⟩
    have hen := enc_any hg6 HC.out.2 c6 w6 (Below.refl _ _)
    unfold EncPost at hen
    have HEN := Lib.hid hen
    have H7 := Lib.hid (show _ ∧ _ ∧ _ from ⟨hb6, H6.out.2.2.1.trans (hb6.mono H6.out.2.2.1.size), H6.out.2.2.2.trans (hb6.mono H6.out.2.2.2.size)⟩)
    clear hen hg6 hb6 HV
    go_wp2_with fail
    refine HEN.out.mono ?_
    rintro e w7 ⟨A7, c7, rfl, ho7, hb7⟩
    have H8 := Lib.hid (show _ ∧ _ ∧ _ ∧ _ from ⟨own_row ho7, H7.out.1.trans (hb7.mono H7.out.1.size), H7.out.2.1.trans (hb7.mono H7.out.2.1.size), H7.out.2.2.trans (hb7.mono H7.out.2.2.size)⟩)
    clear ho7 hb7 HEN
    by_cases hfr : TT.flts PS.kind (LT.pures ms) 0 = 0
    case neg =>
      have hcs := flts_cases (LT.pures ms) 0
      rw [encS_no hfr, spanS_no hfr]
      generalize TT.flts PS.kind (LT.pures ts) 0 = G at *
      generalize encS (LT.pures ts) = E at *
      generalize TT.flts PS.kind (LT.pures ms) 0 = F at *
      rcases hcs with h | h | h
      · exact absurd h hfr
      all_goals
        subst h
        clear hfr
        go_wp2
        go_ret
        exact ⟨rfl, H8.out.2.2.2⟩
    by_cases hfu : TT.flts PS.kind (LT.pures ts) 0 = 0
    case neg =>
      have hcs := flts_cases (LT.pures ts) 0
      rw [hfr]
      generalize encS (LT.pures ts) = E at *
      generalize encS (LT.pures ms) = E1 at *
      generalize spanS (LT.pures ms) = E2 at *
      generalize TT.flts PS.kind (LT.pures ts) 0 = G at *
      have HF := Lib.hid hfr
      clear hfr
      rcases hcs with h | h | h
      · exact absurd h hfu
      all_goals
        subst h
        clear hfu
        go_wp2
        go_ret
        exact ⟨rfl, H8.out.2.2.2⟩
    have he := encS_ok hfr
    have hs := spanS_ok hfr
    have he2 := encS_ok hfu
    have hsp := beside_spec _ _ hfr hfu H0.out.2.1 HU.out.2.1
    have hjo : true = true → ms.length ≤ tn ∧ cmpL (LT.pures ms) ((LT.pures ts).take ms.length) = 0 := fun h => by
      have h1 := HU.out.2.2.2.2.2 trivial
      have h2 := joined_spec (LT.pures ms) (LT.pures us) hfr H0.out.2.1
      rw [LT.pures_length] at h2
      have h3 := congrArg List.length h1
      rw [List.length_append, LT.pures_length, LT.pures_length, HT.out] at h3
      rw [h1]
      exact ⟨by omega, h2⟩
    simp only [LT.pures_length, HT.out] at hsp
    have r5 := H6.out.1
    have r6 := H6.out.2.1
    have r7 := H8.out.1
    rw [he] at r5
    rw [hs, he] at r6
    rw [he2] at r7
    have hbx := codL_byt _ 0 hfr H0.out.2.1
    have hby := codL_byt _ 0 hfu HU.out.2.1
    have hfk := TT.flts_take _ 0 ms.length hfu
    have hfits : TT.alls PS.fits ((LT.pures ts).take ms.length) := by
      have h := HU.out.2.1
      rw [← List.take_append_drop ms.length (LT.pures ts), TT.alls_app] at h
      exact h.1
    have hwts : TT.wts ((LT.pures ts).take ms.length) ≤ 1048576 := by
      have h := HU.out.2.2.1
      rw [← List.take_append_drop ms.length (LT.pures ts), TT.wts_app] at h
      omega
    have HVV := Lib.hid (show (∀ w', Below w7.heap.size w7 w' → Calls Tryd.prog 14 #[.slice A ms.length c] w' (fun e w'' => ∃ (A : Option Addr) (ls : List (LT VS)) (c : Nat), e = .returned (.slice A ls.length c) ∧ Good w'' A ls (LT.pures ms) ∧ Below w7.heap.size w7 w'')) ∧ (ms.length ≤ tn → ∀ w0 w', Below w7.heap.size w7 w0 → Below w0.heap.size w0 w' → Calls Tryd.prog 14 #[.slice A3 ms.length c3] w' (fun e w'' => ∃ (A : Option Addr) (ls : List (LT VS)) (c : Nat), e = .returned (.slice A ls.length c) ∧ Good w'' A ls ((LT.pures ts).take ms.length) ∧ Below w0.heap.size w0 w'')) from by
      refine ⟨fun w' hb => (val_any w A c ms H0.out.1 H0.out.2.1 (by have := HW.out; omega) w' (H8.out.2.2.2.trans (hb.mono H8.out.2.2.2.size))).mono ?_, fun hle w0 w' h0 hb => ?_⟩
      · rintro e w8 ⟨A8, l8, c8, rfl, hg8, hb8⟩
        exact ⟨A8, l8, c8, rfl, hg8, hb.trans (hb8.mono hb.size)⟩
      · have hk : (ts.take ms.length).length = ms.length := by
          rw [List.length_take, HT.out]
          exact Nat.min_eq_left hle
        have h7 : Below w3.heap.size w3 w' := by
          have h1 := H8.out.2.2.1.trans (h0.mono H8.out.2.2.1.size)
          exact h1.trans (hb.mono h1.size)
        have h := val_any w3 A3 c3 (ts.take ms.length) (HU.out.1.take PS.enc5 _) (by rw [LT.pures_take]; exact hfits) (by rw [LT.pures_take]; exact hwts) w' h7
        rw [hk, LT.pures_take] at h
        refine h.mono ?_
        rintro e w8 ⟨A8, l8, c8, rfl, hg8, hb8⟩
        exact ⟨A8, l8, c8, rfl, hg8, hb.trans (hb8.mono hb.size)⟩)
    have HCC0 : ∀ (w8 w9 w' : World) (A8 A9 : Option Addr) (l8 l9 : List (LT VS)) (c8 c9 : Nat), Good w8 A8 l8 (LT.pures ms) → Good w9 A9 l9 ((LT.pures ts).take ms.length) → Below w8.heap.size w8 w' → Below w9.heap.size w9 w' →
        Calls Tryd.prog 22 #[.slice A8 l8.length c8, .slice A9 l9.length c9] w' fun e w'' => e = .returned (.tuple #[.int .i64 (cmpL (LT.pures ms) ((LT.pures ts).take ms.length)), .int .i64 0]) ∧ Below w9.heap.size w9 w'' := by
      intro w8 w9 w' A8 A9 l8 l9 c8 c9 g8 g9 b8 b9
      have h := cmp_any g8 g9 c8 c9 w' b8 b9
      unfold CmpP at h
      rw [cmpS_3 hfr hfk] at h
      exact h.mono fun e w'' k => ⟨k.1, b9.trans (k.2.mono b9.size)⟩
    have hah : (∀ w', Below w7.heap.size w7 w' → Calls Tryd.prog 23 #[.slice A5 (codL (LT.pures ms)).length c5, .slice A7 (codL (LT.pures ts)).length c7] w' fun e w'' => e = .returned (.int .i64 (cmpX (codL (LT.pures ms)) (codL (LT.pures ts)))) ∧ Below w'.heap.size w' w'') ∧
        (∀ w', Below w7.heap.size w7 w' → Calls Tryd.prog 23 #[.slice A7 (codL (LT.pures ts)).length c7, .slice B5 (codL (LT.pures ms) ++ [8]).length d5] w' fun e w'' => e = .returned (.int .i64 (cmpX (codL (LT.pures ts)) (codL (LT.pures ms) ++ [8]))) ∧ Below w'.heap.size w' w'') := by
      refine ⟨fun w' hb => ?_, fun w' hb => ?_⟩
      · have hw : Below w5.heap.size w5 w' := H8.out.2.1.trans (hb.mono H8.out.2.1.size)
        exact ahead_calls w' A5 A7 _ _ c5 c7 (r5.2.1.below hw) (r7.2.1.below hb) hbx hby r5.2.2 r7.2.2
      · have hw : Below w5.heap.size w5 w' := H8.out.2.1.trans (hb.mono H8.out.2.1.size)
        exact ahead_calls w' A7 B5 _ _ c7 d5 (r7.2.1.below hb) (r6.2.1.below hw) hby (fun x hx => by
          rcases List.mem_append.1 hx with h | h
          · exact hbx x h
          · rw [List.mem_singleton.1 h]
            decide) r7.2.2 r6.2.2
    rw [he2, hs, he, hfr, hfu]
    clear he hs he2 r5 r6 r7 hbx hby hfk hfits hwts hfr hfu HC
    generalize cmpX (codL (LT.pures ms)) (codL (LT.pures ts)) = D1 at *
    generalize cmpX (codL (LT.pures ts)) (codL (LT.pures ms) ++ [8]) = D2 at *
    generalize cmpL (LT.pures ms) ((LT.pures ts).take ms.length) = C at *
    generalize (codL (LT.pures ms) ++ [8]).length = n3 at *
    generalize (codL (LT.pures ms)).length = n1 at *
    generalize (codL (LT.pures ts)).length = n2 at *
    have HAH := Lib.hid hah
    have HCC := Lib.hid HCC0
    clear hah HCC0
    by_cases hle : ms.length ≤ tn
    case neg =>
      have HSP3 := Lib.hid (show (decide (D1 ≤ 0) && decide (D2 < 0)) = false by rw [hsp, if_neg hle])
      have HLW := Lib.hid (show Below w7.heap.size w7 w7 ∧ Below w.heap.size w w7 from ⟨Below.refl _ _, H8.out.2.2.2⟩)
      clear HVV HCC
      exact absurd (hjo rfl).1 hle
    rw [if_pos hle] at hsp
    have HVV := Lib.hid (show _ ∧ _ from ⟨HVV.out.1, HVV.out.2 hle⟩)
    have hled : decide (ms.length ≤ tn) = true := decide_eq_true hle
    have hcap : ms.length ≤ c3 := by
      have h1 := HU.out.2.2.2.1
      have h2 := HT.out
      omega
    by_cases hC : C = 0
    case neg =>
      have HSP3 := Lib.hid (show (decide (D1 ≤ 0) && decide (D2 < 0)) = false by rw [hsp]; exact decide_eq_false hC)
      have hCb : (C == 0) = false := beq_false_of_ne hC
      exact absurd (hjo rfl).2 hC
    case pos =>
      subst hC
      have hs3 : (decide (D1 ≤ 0) && decide (D2 < 0)) = true := hsp
      rw [Bool.and_eq_true, decide_eq_true_eq, decide_eq_true_eq] at hs3
      have HSP2 := Lib.hid hs3
      clear hjo hsp hs3
      go_upto_region 13 with (fail)
      go_region_with (first | (go_at_call 14; first | (with_reducible refine (HVV.out.1 _ (by first | exact Below.refl _ _ | exact pw_below_drewN (Below.refl _ _) _ | exact (Below.refl _ _).drew)).mono ?_; rintro e w8 ⟨A8, l8, c8, rfl, hg8, hb8⟩; have H9 := Lib.hid (show _ ∧ _ from ⟨hg8, hb8⟩); clear hg8 hb8) | (with_reducible refine (HVV.out.2 w8 _ H9.out.2 (by first | exact Below.refl _ _ | exact pw_below_drewN (Below.refl _ _) _ | exact (Below.refl _ _).drew)).mono ?_; rintro e w9 ⟨A9, l9, c9, rfl, hg9, hb9⟩; have H10 := Lib.hid (show _ ∧ _ from ⟨hg9, hb9⟩); clear hg9 hb9)) | (go_at_call 22; with_reducible refine (HCC.out w8 w9 _ A8 A9 l8 l9 c8 c9 H9.out.1 H10.out.1 (by first | exact H10.out.2 | exact pw_below_drewN H10.out.2 _ | exact H10.out.2.drew) (by first | exact Below.refl _ _ | exact pw_below_drewN (Below.refl _ _) _ | exact (Below.refl _ _).drew)).mono ?_; rintro e w10 ⟨rfl, hb10⟩; have HLW := Lib.hid (show Below w7.heap.size w7 w10 ∧ Below w.heap.size w w10 by (have h1 := H9.out.2.trans (H10.out.2.mono H9.out.2.size); have h2 := h1.trans (hb10.mono h1.size); exact ⟨h2, H8.out.2.2.2.trans (h2.mono H8.out.2.2.2.size)⟩)); clear hb10))
      all_goals
        clear hled hcap hle
        have e1 : decide (D1 ≤ 0) = true := decide_eq_true HSP2.out.1
        have e2 : decide (D2 < 0) = true := decide_eq_true HSP2.out.2
        go_wp2_with fail
        refine (HAH.out.1 w10 (HLW.out.1)).mono ?_
        rintro e wa ⟨rfl, hba⟩
        have HB1 := Lib.hid (show _ ∧ _ from ⟨HLW.out.1.trans (hba.mono HLW.out.1.size), HLW.out.2.trans (hba.mono HLW.out.2.size)⟩)
        clear hba
        go_wp2_with fail
        refine (HAH.out.2 wa HB1.out.1).mono ?_
        rintro e wb ⟨rfl, hbb⟩
        have HB2 := Lib.hid (HB1.out.2.trans (hbb.mono HB1.out.2.size))
        clear hbb HAH
        go_wp2
        go_ret
        exact ⟨rfl, HB2.out⟩
  case' false =>
    go_upto_region 7 with (fail)
    have HU := Lib.hid (show RdL PS.enc w1 B us ∧ TT.alls PS.fits (LT.pures us) ∧ TT.wts (LT.pures us) ≤ 262144 ∧ us.length ≤ d ∧ Below w.heap.size w w1 ∧ (false = true → LT.pures us = LT.pures ms ++ LT.pures us) from
      ⟨H0.out.2.2.1.below H1.out, H0.out.2.2.2, by have := HW.out; omega, HD.out, H1.out, fun h => by cases h⟩)
    clear HD
    go_wp2_with fail
    generalize htn : us.length = tn
    have HT := Lib.hid htn
    clear htn
    refine (val_any w A c ms H0.out.1 H0.out.2.1 (by have := HW.out; omega) w1 HU.out.2.2.2.2.1).mono ?_
    rintro e w4 ⟨A4, l4, c4, rfl, hg4, hb4⟩
    have hcr := codL_len (LT.pures ms)
    have hcu := codL_len (LT.pures us)
    have HC := Lib.hid (show (codL (LT.pures ms)).length ≤ 1099511627775 ∧ (codL (LT.pures us)).length ≤ 1099511627775 from ⟨by have := HW.out; omega, by have := HU.out.2.2.1; omega⟩)
    clear hcr hcu
    have hsp := span_any hg4 HC.out.1 c4 w4 (Below.refl _ _)
    unfold SpanPost at hsp
    have HSP := Lib.hid hsp
    have H5 := Lib.hid (show _ ∧ _ from ⟨hb4, HU.out.2.2.2.2.1.trans (hb4.mono HU.out.2.2.2.2.1.size)⟩)
    clear hsp hg4 hb4
    go_wp2_with fail
    refine HSP.out.mono ?_
    rintro e w5 ⟨A5, c5, B5, d5, rfl, ho5, hp5, _, hb5⟩
    have hx5 : Below w1.heap.size w1 w5 := H5.out.1.trans (hb5.mono H5.out.1.size)
    have H6 := Lib.hid (show _ ∧ _ ∧ _ ∧ _ from ⟨own_row ho5, own_row hp5, hx5, H5.out.2.trans (hb5.mono H5.out.2.size)⟩)
    clear HSP ho5 hp5 hb5 hx5
    go_wp2_with fail
    have hv := val_any w1 B d us HU.out.1 HU.out.2.1 (by have := HU.out.2.2.1; omega) w5 H6.out.2.2.1
    rw [HT.out] at hv
    have HV := Lib.hid hv
    clear hv
    refine HV.out.mono ?_
    rintro e w6 ⟨A6, l6, c6, rfl, hg6, hb6⟩
    have hen := enc_any hg6 HC.out.2 c6 w6 (Below.refl _ _)
    unfold EncPost at hen
    have HEN := Lib.hid hen
    have H7 := Lib.hid (show _ ∧ _ ∧ _ from ⟨hb6, H6.out.2.2.1.trans (hb6.mono H6.out.2.2.1.size), H6.out.2.2.2.trans (hb6.mono H6.out.2.2.2.size)⟩)
    clear hen hg6 hb6 HV
    go_wp2_with fail
    refine HEN.out.mono ?_
    rintro e w7 ⟨A7, c7, rfl, ho7, hb7⟩
    have H8 := Lib.hid (show _ ∧ _ ∧ _ ∧ _ from ⟨own_row ho7, H7.out.1.trans (hb7.mono H7.out.1.size), H7.out.2.1.trans (hb7.mono H7.out.2.1.size), H7.out.2.2.trans (hb7.mono H7.out.2.2.size)⟩)
    clear ho7 hb7 HEN
    by_cases hfr : TT.flts PS.kind (LT.pures ms) 0 = 0
    case neg =>
      have hcs := flts_cases (LT.pures ms) 0
      rw [encS_no hfr, spanS_no hfr]
      generalize TT.flts PS.kind (LT.pures us) 0 = G at *
      generalize encS (LT.pures us) = E at *
      generalize TT.flts PS.kind (LT.pures ms) 0 = F at *
      rcases hcs with h | h | h
      · exact absurd h hfr
      all_goals
        subst h
        clear hfr
        go_wp2
        go_ret
        exact ⟨rfl, H8.out.2.2.2⟩
    by_cases hfu : TT.flts PS.kind (LT.pures us) 0 = 0
    case neg =>
      have hcs := flts_cases (LT.pures us) 0
      rw [hfr]
      generalize encS (LT.pures us) = E at *
      generalize encS (LT.pures ms) = E1 at *
      generalize spanS (LT.pures ms) = E2 at *
      generalize TT.flts PS.kind (LT.pures us) 0 = G at *
      have HF := Lib.hid hfr
      clear hfr
      rcases hcs with h | h | h
      · exact absurd h hfu
      all_goals
        subst h
        clear hfu
        go_wp2
        go_ret
        exact ⟨rfl, H8.out.2.2.2⟩
    have he := encS_ok hfr
    have hs := spanS_ok hfr
    have he2 := encS_ok hfu
    have hsp := beside_spec _ _ hfr hfu H0.out.2.1 HU.out.2.1
    have hjo : false = true → ms.length ≤ tn ∧ cmpL (LT.pures ms) ((LT.pures us).take ms.length) = 0 := fun h => by
      have h1 := HU.out.2.2.2.2.2 h
      have h2 := joined_spec (LT.pures ms) (LT.pures us) hfr H0.out.2.1
      rw [LT.pures_length] at h2
      have h3 := congrArg List.length h1
      rw [List.length_append, LT.pures_length, LT.pures_length, HT.out] at h3
      rw [h1]
      exact ⟨by omega, h2⟩
    simp only [LT.pures_length, HT.out] at hsp
    have r5 := H6.out.1
    have r6 := H6.out.2.1
    have r7 := H8.out.1
    rw [he] at r5
    rw [hs, he] at r6
    rw [he2] at r7
    have hbx := codL_byt _ 0 hfr H0.out.2.1
    have hby := codL_byt _ 0 hfu HU.out.2.1
    have hfk := TT.flts_take _ 0 ms.length hfu
    have hfits : TT.alls PS.fits ((LT.pures us).take ms.length) := by
      have h := HU.out.2.1
      rw [← List.take_append_drop ms.length (LT.pures us), TT.alls_app] at h
      exact h.1
    have hwts : TT.wts ((LT.pures us).take ms.length) ≤ 1048576 := by
      have h := HU.out.2.2.1
      rw [← List.take_append_drop ms.length (LT.pures us), TT.wts_app] at h
      omega
    have HVV := Lib.hid (show (∀ w', Below w7.heap.size w7 w' → Calls Tryd.prog 14 #[.slice A ms.length c] w' (fun e w'' => ∃ (A : Option Addr) (ls : List (LT VS)) (c : Nat), e = .returned (.slice A ls.length c) ∧ Good w'' A ls (LT.pures ms) ∧ Below w7.heap.size w7 w'')) ∧ (ms.length ≤ tn → ∀ w0 w', Below w7.heap.size w7 w0 → Below w0.heap.size w0 w' → Calls Tryd.prog 14 #[.slice B ms.length d] w' (fun e w'' => ∃ (A : Option Addr) (ls : List (LT VS)) (c : Nat), e = .returned (.slice A ls.length c) ∧ Good w'' A ls ((LT.pures us).take ms.length) ∧ Below w0.heap.size w0 w'')) from by
      refine ⟨fun w' hb => (val_any w A c ms H0.out.1 H0.out.2.1 (by have := HW.out; omega) w' (H8.out.2.2.2.trans (hb.mono H8.out.2.2.2.size))).mono ?_, fun hle w0 w' h0 hb => ?_⟩
      · rintro e w8 ⟨A8, l8, c8, rfl, hg8, hb8⟩
        exact ⟨A8, l8, c8, rfl, hg8, hb.trans (hb8.mono hb.size)⟩
      · have hk : (us.take ms.length).length = ms.length := by
          rw [List.length_take, HT.out]
          exact Nat.min_eq_left hle
        have h7 : Below w1.heap.size w1 w' := by
          have h1 := H8.out.2.2.1.trans (h0.mono H8.out.2.2.1.size)
          exact h1.trans (hb.mono h1.size)
        have h := val_any w1 B d (us.take ms.length) (HU.out.1.take PS.enc5 _) (by rw [LT.pures_take]; exact hfits) (by rw [LT.pures_take]; exact hwts) w' h7
        rw [hk, LT.pures_take] at h
        refine h.mono ?_
        rintro e w8 ⟨A8, l8, c8, rfl, hg8, hb8⟩
        exact ⟨A8, l8, c8, rfl, hg8, hb.trans (hb8.mono hb.size)⟩)
    have HCC0 : ∀ (w8 w9 w' : World) (A8 A9 : Option Addr) (l8 l9 : List (LT VS)) (c8 c9 : Nat), Good w8 A8 l8 (LT.pures ms) → Good w9 A9 l9 ((LT.pures us).take ms.length) → Below w8.heap.size w8 w' → Below w9.heap.size w9 w' →
        Calls Tryd.prog 22 #[.slice A8 l8.length c8, .slice A9 l9.length c9] w' fun e w'' => e = .returned (.tuple #[.int .i64 (cmpL (LT.pures ms) ((LT.pures us).take ms.length)), .int .i64 0]) ∧ Below w9.heap.size w9 w'' := by
      intro w8 w9 w' A8 A9 l8 l9 c8 c9 g8 g9 b8 b9
      have h := cmp_any g8 g9 c8 c9 w' b8 b9
      unfold CmpP at h
      rw [cmpS_3 hfr hfk] at h
      exact h.mono fun e w'' k => ⟨k.1, b9.trans (k.2.mono b9.size)⟩
    have hah : (∀ w', Below w7.heap.size w7 w' → Calls Tryd.prog 23 #[.slice A5 (codL (LT.pures ms)).length c5, .slice A7 (codL (LT.pures us)).length c7] w' fun e w'' => e = .returned (.int .i64 (cmpX (codL (LT.pures ms)) (codL (LT.pures us)))) ∧ Below w'.heap.size w' w'') ∧
        (∀ w', Below w7.heap.size w7 w' → Calls Tryd.prog 23 #[.slice A7 (codL (LT.pures us)).length c7, .slice B5 (codL (LT.pures ms) ++ [8]).length d5] w' fun e w'' => e = .returned (.int .i64 (cmpX (codL (LT.pures us)) (codL (LT.pures ms) ++ [8]))) ∧ Below w'.heap.size w' w'') := by
      refine ⟨fun w' hb => ?_, fun w' hb => ?_⟩
      · have hw : Below w5.heap.size w5 w' := H8.out.2.1.trans (hb.mono H8.out.2.1.size)
        exact ahead_calls w' A5 A7 _ _ c5 c7 (r5.2.1.below hw) (r7.2.1.below hb) hbx hby r5.2.2 r7.2.2
      · have hw : Below w5.heap.size w5 w' := H8.out.2.1.trans (hb.mono H8.out.2.1.size)
        exact ahead_calls w' A7 B5 _ _ c7 d5 (r7.2.1.below hb) (r6.2.1.below hw) hby (fun x hx => by
          rcases List.mem_append.1 hx with h | h
          · exact hbx x h
          · rw [List.mem_singleton.1 h]
            decide) r7.2.2 r6.2.2
    rw [he2, hs, he, hfr, hfu]
    clear he hs he2 r5 r6 r7 hbx hby hfk hfits hwts hfr hfu HC
    generalize cmpX (codL (LT.pures ms)) (codL (LT.pures us)) = D1 at *
    generalize cmpX (codL (LT.pures us)) (codL (LT.pures ms) ++ [8]) = D2 at *
    generalize cmpL (LT.pures ms) ((LT.pures us).take ms.length) = C at *
    generalize (codL (LT.pures ms) ++ [8]).length = n3 at *
    generalize (codL (LT.pures ms)).length = n1 at *
    generalize (codL (LT.pures us)).length = n2 at *
    have HAH := Lib.hid hah
    have HCC := Lib.hid HCC0
    clear hah HCC0
    by_cases hle : ms.length ≤ tn
    case neg =>
      have HSP3 := Lib.hid (show (decide (D1 ≤ 0) && decide (D2 < 0)) = false by rw [hsp, if_neg hle])
      have HLW := Lib.hid (show Below w7.heap.size w7 w7 ∧ Below w.heap.size w w7 from ⟨Below.refl _ _, H8.out.2.2.2⟩)
      clear HVV HCC
      clear hjo hsp
      have hled : decide (ms.length ≤ tn) = false := decide_eq_false hle
      have hsf := HSP3.out
      by_cases hd1 : D1 ≤ 0
      case pos =>
        have e1 : decide (D1 ≤ 0) = true := decide_eq_true hd1
        have e2 : decide (D2 < 0) = false := by
          rw [e1, Bool.true_and] at hsf
          exact hsf
        clear hsf hd1
        go_wp2_with fail
        refine (HAH.out.1 w7 (HLW.out.1)).mono ?_
        rintro e wa ⟨rfl, hba⟩
        have HB1 := Lib.hid (show _ ∧ _ from ⟨HLW.out.1.trans (hba.mono HLW.out.1.size), HLW.out.2.trans (hba.mono HLW.out.2.size)⟩)
        clear hba
        go_wp2_with fail
        refine (HAH.out.2 wa HB1.out.1).mono ?_
        rintro e wb ⟨rfl, hbb⟩
        have HB2 := Lib.hid (HB1.out.2.trans (hbb.mono HB1.out.2.size))
        clear hbb HAH
        go_wp2
        go_ret
        exact ⟨rfl, HB2.out⟩
      case neg =>
        have e1 : decide (D1 ≤ 0) = false := decide_eq_false hd1
        clear hsf hd1
        go_wp2_with fail
        refine (HAH.out.1 w7 (HLW.out.1)).mono ?_
        rintro e wa ⟨rfl, hba⟩
        have HB2 := Lib.hid (HLW.out.2.trans (hba.mono HLW.out.2.size))
        clear hba HAH
        go_wp2
        go_ret
        exact ⟨rfl, HB2.out⟩
    rw [if_pos hle] at hsp
    have HVV := Lib.hid (show _ ∧ _ from ⟨HVV.out.1, HVV.out.2 hle⟩)
    have hled : decide (ms.length ≤ tn) = true := decide_eq_true hle
    have hcap : ms.length ≤ d := by
      have h1 := HU.out.2.2.2.1
      have h2 := HT.out
      omega
    by_cases hC : C = 0
    case neg =>
      have HSP3 := Lib.hid (show (decide (D1 ≤ 0) && decide (D2 < 0)) = false by rw [hsp]; exact decide_eq_false hC)
      have hCb : (C == 0) = false := beq_false_of_ne hC
      clear hjo hsp hC
      go_upto_region 13 with (fail)
      go_region_with (first | (go_at_call 14; first | (with_reducible refine (HVV.out.1 _ (by first | exact Below.refl _ _ | exact pw_below_drewN (Below.refl _ _) _ | exact (Below.refl _ _).drew)).mono ?_; rintro e w8 ⟨A8, l8, c8, rfl, hg8, hb8⟩; have H9 := Lib.hid (show _ ∧ _ from ⟨hg8, hb8⟩); clear hg8 hb8) | (with_reducible refine (HVV.out.2 w8 _ H9.out.2 (by first | exact Below.refl _ _ | exact pw_below_drewN (Below.refl _ _) _ | exact (Below.refl _ _).drew)).mono ?_; rintro e w9 ⟨A9, l9, c9, rfl, hg9, hb9⟩; have H10 := Lib.hid (show _ ∧ _ from ⟨hg9, hb9⟩); clear hg9 hb9)) | (go_at_call 22; with_reducible refine (HCC.out w8 w9 _ A8 A9 l8 l9 c8 c9 H9.out.1 H10.out.1 (by first | exact H10.out.2 | exact pw_below_drewN H10.out.2 _ | exact H10.out.2.drew) (by first | exact Below.refl _ _ | exact pw_below_drewN (Below.refl _ _) _ | exact (Below.refl _ _).drew)).mono ?_; rintro e w10 ⟨rfl, hb10⟩; have HLW := Lib.hid (show Below w7.heap.size w7 w10 ∧ Below w.heap.size w w10 by (have h1 := H9.out.2.trans (H10.out.2.mono H9.out.2.size); have h2 := h1.trans (hb10.mono h1.size); exact ⟨h2, H8.out.2.2.2.trans (h2.mono H8.out.2.2.2.size)⟩)); clear hb10))
      all_goals
        clear hled hcap hle
        have hsf := HSP3.out
        by_cases hd1 : D1 ≤ 0
        case pos =>
          have e1 : decide (D1 ≤ 0) = true := decide_eq_true hd1
          have e2 : decide (D2 < 0) = false := by
            rw [e1, Bool.true_and] at hsf
            exact hsf
          clear hsf hd1
          go_wp2_with fail
          refine (HAH.out.1 w10 (HLW.out.1)).mono ?_
          rintro e wa ⟨rfl, hba⟩
          have HB1 := Lib.hid (show _ ∧ _ from ⟨HLW.out.1.trans (hba.mono HLW.out.1.size), HLW.out.2.trans (hba.mono HLW.out.2.size)⟩)
          clear hba
          go_wp2_with fail
          refine (HAH.out.2 wa HB1.out.1).mono ?_
          rintro e wb ⟨rfl, hbb⟩
          have HB2 := Lib.hid (HB1.out.2.trans (hbb.mono HB1.out.2.size))
          clear hbb HAH
          go_wp2
          go_ret
          exact ⟨rfl, HB2.out⟩
        case neg =>
          have e1 : decide (D1 ≤ 0) = false := decide_eq_false hd1
          clear hsf hd1
          go_wp2_with fail
          refine (HAH.out.1 w10 (HLW.out.1)).mono ?_
          rintro e wa ⟨rfl, hba⟩
          have HB2 := Lib.hid (HLW.out.2.trans (hba.mono HLW.out.2.size))
          clear hba HAH
          go_wp2
          go_ret
          exact ⟨rfl, HB2.out⟩
    case pos =>
      subst hC
      have hs3 : (decide (D1 ≤ 0) && decide (D2 < 0)) = true := hsp
      rw [Bool.and_eq_true, decide_eq_true_eq, decide_eq_true_eq] at hs3
      have HSP2 := Lib.hid hs3
      clear hjo hsp hs3
      go_upto_region 13 with (fail)
      go_region_with (first | (go_at_call 14; first | (with_reducible refine (HVV.out.1 _ (by first | exact Below.refl _ _ | exact pw_below_drewN (Below.refl _ _) _ | exact (Below.refl _ _).drew)).mono ?_; rintro e w8 ⟨A8, l8, c8, rfl, hg8, hb8⟩; have H9 := Lib.hid (show _ ∧ _ from ⟨hg8, hb8⟩); clear hg8 hb8) | (with_reducible refine (HVV.out.2 w8 _ H9.out.2 (by first | exact Below.refl _ _ | exact pw_below_drewN (Below.refl _ _) _ | exact (Below.refl _ _).drew)).mono ?_; rintro e w9 ⟨A9, l9, c9, rfl, hg9, hb9⟩; have H10 := Lib.hid (show _ ∧ _ from ⟨hg9, hb9⟩); clear hg9 hb9)) | (go_at_call 22; with_reducible refine (HCC.out w8 w9 _ A8 A9 l8 l9 c8 c9 H9.out.1 H10.out.1 (by first | exact H10.out.2 | exact pw_below_drewN H10.out.2 _ | exact H10.out.2.drew) (by first | exact Below.refl _ _ | exact pw_below_drewN (Below.refl _ _) _ | exact (Below.refl _ _).drew)).mono ?_; rintro e w10 ⟨rfl, hb10⟩; have HLW := Lib.hid (show Below w7.heap.size w7 w10 ∧ Below w.heap.size w w10 by (have h1 := H9.out.2.trans (H10.out.2.mono H9.out.2.size); have h2 := h1.trans (hb10.mono h1.size); exact ⟨h2, H8.out.2.2.2.trans (h2.mono H8.out.2.2.2.size)⟩)); clear hb10))
      all_goals
        clear hled hcap hle
        have e1 : decide (D1 ≤ 0) = true := decide_eq_true HSP2.out.1
        have e2 : decide (D2 < 0) = true := decide_eq_true HSP2.out.2
        go_wp2_with fail
        refine (HAH.out.1 w10 (HLW.out.1)).mono ?_
        rintro e wa ⟨rfl, hba⟩
        have HB1 := Lib.hid (show _ ∧ _ from ⟨HLW.out.1.trans (hba.mono HLW.out.1.size), HLW.out.2.trans (hba.mono HLW.out.2.size)⟩)
        clear hba
        go_wp2_with fail
        refine (HAH.out.2 wa HB1.out.1).mono ?_
        rintro e wb ⟨rfl, hbb⟩
        have HB2 := Lib.hid (HB1.out.2.trans (hbb.mono HB1.out.2.size))
        clear hbb HAH
        go_wp2
        go_ret
        exact ⟨rfl, HB2.out⟩
end Go.Proofs.YtplfmpcoojkjlaaDoor
