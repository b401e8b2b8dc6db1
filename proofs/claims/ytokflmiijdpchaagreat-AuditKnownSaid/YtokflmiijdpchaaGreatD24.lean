/- The way of a few hashes. Printed by wip/tools/mkJump.py. -/
import Derived.Test.YtokflmiijdpchaaGreatD23
import Derived.Laws.FloatArith
namespace Go.Proofs.YtokflmiijdpchaaGreat
open Go.RowKit
attribute [local go_sem] Oper.semAt_some
def Hx (W : World) (hb : Nat) (x : Int) : Prop := W.heap[hb]? = some (.cells #[.int .u64 x] 30 (0, 0))
def Bx (W : World) (bb : Nat) (n : Int) : Prop := W.heap[bb]? = some (.cells #[.int .i64 n] 3 (0, 0))
theorem hx_set {W : World} {hb : Nat} {x : Int} (h : Hx W hb x) (y : Int) : Hx (W.setCell ⟨hb, 0, none⟩ (.int .u64 y)) hb y := by
  simp only [Hx, World.setCell, Array.getElem?_modify, if_true, Option.map_some, h.trans rfl]
  rfl
theorem bx_set {W : World} {bb hb : Nat} (hne : bb ≠ hb) {n : Int} (h : Bx W bb n) (v : Value) : Bx (W.setCell ⟨hb, 0, none⟩ v) bb n := by
  simp only [Bx, World.setCell, Array.getElem?_modify, if_neg (Ne.symm hne)]
  exact h
/-- What Jump looks after between two yields. -/
structure JJ (w : World) (rec : Loop) (lst : Int) (W : World) : Prop where
  last : W.heap[w.heap.size]? = some (.cells #[.int .i64 lst] 3 (0, 0))
  loop : W.heap[w.heap.size + 1 + 1 + 1 + 1]? = some (.loop rec)
  defs : W.heap[w.heap.size + 1 + 1 + 1]? = some (.deferred (some []))
  kp : Kp (· < w.heap.size) w W
theorem JJ.set {w W : World} {rec : Loop} {lst : Int} (h : JJ w rec lst W) (v : Value) (hb : Nat) (h1 : hb = w.heap.size + 1) : JJ w rec lst (W.setCell ⟨hb, 0, none⟩ v) := by
  subst h1
  have hlt := (Array.getElem?_eq_some_iff.1 h.loop).1
  have hk : Kp (fun b => b ≠ w.heap.size + 1 ∧ b < W.heap.size) W (W.setCell ⟨w.heap.size + 1, 0, none⟩ v) := Kp.of_grown (set_grown _ _ _) fun b hb => ⟨hb.2, hb.1⟩
  exact ⟨(hk.block _ ⟨by omega, by omega⟩).trans h.last, (hk.block _ ⟨by omega, by omega⟩).trans h.loop, (hk.block _ ⟨by omega, by omega⟩).trans h.defs, h.kp.trans (hk.mono fun b (hb : b < w.heap.size) => ⟨by omega, by omega⟩)⟩
theorem set_other (W : World) (a : Addr) (v : Value) (b : Nat) (h : b ≠ a.block) : (W.setCell a v).heap[b]? = W.heap[b]? := by
  simp only [World.setCell, Array.getElem?_modify, if_neg (Ne.symm h)]
theorem kp_putObj {U : Nat → Prop} (W : World) (l : Nat) (o : Obj) (h : ∀ b, U b → b ≠ l) : Kp U W (W.putObj l o) := ⟨rfl, rfl, rfl, by simp [World.putObj], fun b hb => World.putObj_heap_other (h b hb)⟩
theorem jj_round {w W : World} {rec busy : Loop} {a : Int} (h : JJ w rec a W) (b : Int) : ((W.putObj (w.heap.size + 1 + 1 + 1 + 1) (.loop busy)).setCell ⟨w.heap.size, 0, none⟩ (.int .i64 b)).heap[w.heap.size + 1 + 1 + 1 + 1]? = some (.loop busy) ∧ JJ w rec b (((W.putObj (w.heap.size + 1 + 1 + 1 + 1) (.loop busy)).setCell ⟨w.heap.size, 0, none⟩ (.int .i64 b)).putObj (w.heap.size + 1 + 1 + 1 + 1) (.loop rec)) ∧
    (((W.putObj (w.heap.size + 1 + 1 + 1 + 1) (.loop busy)).setCell ⟨w.heap.size, 0, none⟩ (.int .i64 b)).putObj (w.heap.size + 1 + 1 + 1 + 1) (.loop rec)).heap[w.heap.size + 1]? = W.heap[w.heap.size + 1]? ∧ (((W.putObj (w.heap.size + 1 + 1 + 1 + 1) (.loop busy)).setCell ⟨w.heap.size, 0, none⟩ (.int .i64 b)).putObj (w.heap.size + 1 + 1 + 1 + 1) (.loop rec)).heap[w.heap.size + 1 + 1]? = W.heap[w.heap.size + 1 + 1]? := by
  have hlt := (Array.getElem?_eq_some_iff.1 h.loop).1
  have hs : (W.putObj (w.heap.size + 1 + 1 + 1 + 1) (.loop busy)).heap.size = W.heap.size := by simp [World.putObj]
  have hs2 : ((W.putObj (w.heap.size + 1 + 1 + 1 + 1) (.loop busy)).setCell ⟨w.heap.size, 0, none⟩ (.int .i64 b)).heap.size = W.heap.size := by simp [World.putObj]
  have e : ∀ q, q ≠ w.heap.size → q ≠ w.heap.size + 1 + 1 + 1 + 1 → (((W.putObj (w.heap.size + 1 + 1 + 1 + 1) (.loop busy)).setCell ⟨w.heap.size, 0, none⟩ (.int .i64 b)).putObj (w.heap.size + 1 + 1 + 1 + 1) (.loop rec)).heap[q]? = W.heap[q]? := fun q h1 h2 => (World.putObj_heap_other h2).trans ((set_other _ _ _ q h1).trans (World.putObj_heap_other h2))
  refine ⟨(set_other _ _ _ _ (by simp only; omega)).trans (World.putObj_heap_same hlt), ⟨?_, World.putObj_heap_same (by omega), (e _ (by omega) (by omega)).trans h.defs, ?_⟩, e _ (by omega) (by omega), e _ (by omega) (by omega)⟩
  · rw [World.putObj_heap_other (show w.heap.size ≠ w.heap.size + 1 + 1 + 1 + 1 by omega)]
    simp only [World.setCell, Array.getElem?_modify, if_true]
    rw [World.putObj_heap_other (show w.heap.size ≠ w.heap.size + 1 + 1 + 1 + 1 by omega), h.last]
    rfl
  · refine h.kp.trans (((kp_putObj W _ _ fun c hc => ?_).set _ _ fun c hc => ⟨?_, ?_⟩).trans (kp_putObj _ _ _ fun c hc => ?_))
    all_goals
      try simp only at hc ⊢
      omega
theorem jway_calls (w : World) (h n : Int) : Calls Tryz.prog 194 #[.int .u64 h, .int .i64 n] w fun e w' => e = .returned (.func (.func 242) #[] #[.pointer (some ⟨w.heap.size + 1, 0, none⟩), .pointer (some ⟨w.heap.size, 0, none⟩)]) ∧ w' = (w.alloc (.cells #[.int .u64 h] 30)).alloc (.cells #[.int .i64 n] 3) := by
  go_enter Tryz.func194, Tryz.ntmps194
  go_wp2
  go_ret
  exact ⟨rfl, rfl⟩
set_option maxRecDepth 100000 in
set_option maxHeartbeats 4000000 in
theorem way_0_1 (w : World) (l bb hb : Nat) (hne : bb ≠ hb) (J : Nat → World → Prop) (hJ : ∀ k W v, J k W → J k (W.setCell ⟨hb, 0, none⟩ v)) (hh : Hx w hb 12161962213042174405) (hbx : Bx w bb 1) (h0 : J 0 w)
    (hY : ∀ (k : Nat) (x : Int) (W : World), ((k = 0 ∧ x = 0)) → J k W → YieldAt Fence.wide 8 Tryz.prog l #[.int .i64 x] W fun e W' => e = .returned (.bool true) ∧ (J (k + 1) W' ∧ W'.heap[hb]? = W.heap[hb]? ∧ W'.heap[bb]? = W.heap[bb]?)) :
    Calls Tryz.prog 242 #[.func (.yield l) #[] #[], .pointer (some ⟨bb, 0, none⟩), .pointer (some ⟨hb, 0, none⟩)] w fun e W' => (∃ v, e = .returned v) ∧ J 1 W' := by
  have w00 : IntKind.u64.wrap 34818889723821797986818297246726129585 = 5889715042425931697 := by rfl
  have w01 : IntKind.u64.wrap 5889715042425931698 = 5889715042425931698 := by rfl
  have w02 : IntKind.u64.wrap 685653073 = 685653073 := by rfl
  have a0 : ∀ w : World, (convert 30 326 (.int .u64 685653073)).run Tryz.prog w = .ok (.float .f64 4739034883219783680) w := fun w => (run_convert_int_float w _ _ .u64 .f64 685653073 rfl Tryz.underlying326).trans (by rw [show floatOfInt .f64 685653073 = 4739034883219783680 by kernel_rfl])
  have b0 : ∀ w : World, (binOp .quo 326 (.float .f64 4746794007248502784) (.float .f64 4739034883219783680)).run Tryz.prog w = .ok (.float .f64 4614235115665066705) w := fun w => run_float_arith w .quo _ .f64 _ _ _ (by kernel_rfl)
  have c0 : ∀ w : World, (convert 3 326 (.int .i64 1)).run Tryz.prog w = .ok (.float .f64 4607182418800017408) w := fun w => (run_convert_int_float w _ _ .i64 .f64 1 rfl Tryz.underlying326).trans (by rw [show floatOfInt .f64 1 = 4607182418800017408 by kernel_rfl])
  have d0 : ∀ w : World, (binOp .mul 326 (.float .f64 4607182418800017408) (.float .f64 4614235115665066705)).run Tryz.prog w = .ok (.float .f64 4614235115665066705) w := fun w => run_float_arith w .mul _ .f64 _ _ _ (by kernel_rfl)
  have e0 : ∀ w : World, (convert 326 3 (.float .f64 4614235115665066705)).run Tryz.prog w = .ok (.int .i64 3) w := fun w => run_convert_float_int w _ _ .f64 .i64 _ _ rfl Tryz.underlying3 (by kernel_rfl)
  have HJ := Lib.hid (show _ ∧ _ from ⟨hJ, hY⟩)
  have H0 := Lib.hid (show _ ∧ _ ∧ _ from ⟨hh, hbx, h0⟩)
  have g0 := (cellD hbx 0).1
  clear hJ hY hh hbx h0
  refine (callsIn_wide (n := 9)).1 ?_
  refine callsIn_of_wp Tryz.func242 rfl trivial ?_ rfl
  simp only [Tryz.ntmps242, List.size_toArray, List.length_cons, List.length_nil, Nat.reduceAdd, Nat.reduceSub, Array.replicate_succ, Array.replicate_zero, List.push_toArray, List.append_toArray, List.nil_append, List.cons_append]
  gi_wp2
  gi_loopw [4] (fun p wr => (p = .int .i64 0 ∧ Hx wr hb 12161962213042174405 ∧ Bx wr bb 1 ∧ J 0 wr) ∨ (p = .int .i64 3 ∧ Hx wr hb 5889715042425931698 ∧ Bx wr bb 1 ∧ J 1 wr)) (fun p _ => if intOf p = 0 then 1 else 0)
  case atStart => exact .inl ⟨rfl, H0.out.1, H0.out.2.1, H0.out.2.2⟩
  case round =>
    rcases hrel with ⟨rfl, h1, h2, h3⟩ | ⟨rfl, h1, h2, h3⟩
    · have r0 := (cellD h1 0).1
      have r0f := (cellD h1 0).2
      have r1 := (cellD h2 0).1
      obtain ⟨fn, tmps, assign, body, hy, hR⟩ := HJ.out.2 0 0 wr (by simp) h3
      have H1 := Lib.hid (show _ ∧ _ from ⟨h1, h2⟩)
      clear h1 h2
      gi_wp2
      refine hR.mono ?_
      rintro e W3 ⟨rfl, hJ3, hh3, hb3⟩
      have s0 := (cellD (hh3.trans H1.out.1) 0).1
      have s0f := (cellD (hh3.trans H1.out.1) 0).2
      have s1 := (cellD (hb3.trans H1.out.2) 0).1
      have H3 := Lib.hid (show _ ∧ _ ∧ _ from ⟨hJ3, hh3.trans H1.out.1, hb3.trans H1.out.2⟩)
      clear hJ3 hh3 hb3
      gi_wp2
      exact ⟨.inr (⟨rfl, hx_set H3.out.2.1 _, bx_set hne H3.out.2.2 _, HJ.out.1 _ _ _ H3.out.1⟩), by simp [intOf]⟩
    · have r1 := (cellD h2 0).1
      gi_wp2
      first | go_end0 | refine bodyPost_ret (results_none rfl _ _ _) rfl ?_
      exact ⟨⟨_, rfl⟩, h3⟩
set_option maxRecDepth 100000 in
set_option maxHeartbeats 4000000 in
theorem jump_0_1 (w : World) : Calls Tryz.prog 125 #[.int .u64 12161962213042174405, .int .i64 1] w fun e w' => e = .returned (.int .i64 0) ∧ Below w.heap.size w w' := by
  refine (callsIn_wide (n := 9)).1 (callsIn_of_wp_marks Tryz.func125 rfl trivial (wpIn_wide.2 ?_) rfl)
  simp only [Tryz.ntmps125, List.size_toArray, List.length_cons, List.length_nil, Nat.reduceAdd, Nat.reduceSub, Array.replicate_succ, Array.replicate_zero, List.push_toArray, List.append_toArray, List.nil_append, List.cons_append]
  go_wp2_with (first
    | (go_at_call 194; refine (jway_calls _ _ _).mono ?_; rintro e w' ⟨rfl, rfl⟩))
  obtain ⟨W0, hW0⟩ : ∃ W0 : World, W0 = ((w.alloc (.cells #[.int .i64 (-1)] 3)).alloc (.cells #[.int .u64 12161962213042174405] 30)).alloc (.cells #[.int .i64 1] 3) := ⟨_, rfl⟩
  have b0 : W0.heap[w.heap.size]? = some (.cells #[.int .i64 (-1)] 3 (0, 0)) := by
    rw [hW0, heap_alloc_old _ _ (by simp; omega), heap_alloc_old _ _ (by simp)]
    exact heap_alloc_new w _
  have b1 : Hx W0 (w.heap.size + 1) 12161962213042174405 := by
    rw [hW0, Hx, heap_alloc_old _ _ (by simp)]
    simpa using heap_alloc_new (w.alloc (.cells #[.int .i64 (-1)] 3)) (.cells #[.int .u64 12161962213042174405] 30)
  have b2 : Bx W0 (w.heap.size + 1 + 1) 1 := by
    rw [hW0, Bx]
    simpa using heap_alloc_new ((w.alloc (.cells #[.int .i64 (-1)] 3)).alloc (.cells #[.int .u64 12161962213042174405] 30)) (.cells #[.int .i64 1] 3)
  have hB : Below w.heap.size w W0 := hW0 ▸ (((Below.refl _ _).alloc (Nat.le_refl _) _).alloc (by simp) _).alloc (by simp; omega) _
  have hsz : W0.heap.size = w.heap.size + 1 + 1 + 1 := by rw [hW0]; simp
  rw [← hW0]
  clear hW0
  have HB := Lib.hid (show _ ∧ _ ∧ _ ∧ _ from ⟨b0, b1, b2, hB⟩)
  clear b0 b1 b2 hB
  refine wp_rangeFunc_wide (gf := 242) (lb := #[.pointer (some ⟨w.heap.size + 1 + 1, 0, none⟩), .pointer (some ⟨w.heap.size + 1, 0, none⟩)]) rfl (enters_of Tryz.func242 (by kernel_rfl) rfl) ?_
  intro fn
  rw [hsz]
  generalize hrec : LRec fn _ _ _ _ _ = rec
  have hold : ∀ o1 o2 : Obj, ∀ b, b < w.heap.size + 1 + 1 + 1 → ((W0.alloc o1).alloc o2).heap[b]? = W0.heap[b]? := fun o1 o2 b hb => (heap_alloc_old _ _ (by simp; omega)).trans (heap_alloc_old _ _ (by omega))
  refine (way_0_1 ((W0.alloc (.deferred (some []))).alloc (.loop rec)) (w.heap.size + 1 + 1 + 1 + 1) (w.heap.size + 1 + 1) (w.heap.size + 1) (by omega) (fun k W => JJ w rec (if k = 0 then -1 else 0) W) (fun k W v hj => hj.set v _ rfl) ((hold _ _ _ (by omega)).trans HB.out.2.1) ((hold _ _ _ (by omega)).trans HB.out.2.2.1) ⟨(hold _ _ _ (by omega)).trans HB.out.1, ?_, ?_, ?_⟩ ?_).mono ?_
  · have := heap_alloc_new (W0.alloc (.deferred (some []))) (.loop rec)
    simpa [hsz] using this
  · rw [heap_alloc_old _ _ (by simp; omega)]
    have := heap_alloc_new W0 (.deferred (some []))
    simpa [hsz] using this
  · exact Kp.of_below (HB.out.2.2.2.trans (((Below.refl _ _).alloc (by omega) _).alloc (by simp; omega) _)) fun b hb => hb
  · rintro k x W hk hj
    rcases hk with ⟨rfl, rfl⟩
    all_goals
      have hl := hj.loop
      rw [← hrec] at hl
      have hlt := (Array.getElem?_eq_some_iff.1 hl).1
      refine yield_at hl rfl ?_
      gi_wp2
      refine ⟨let ⟨_, h⟩ := Array.getElem?_eq_some_iff.1 hj.loop; h, ?_⟩
      have hp : ∀ (o : Obj) (b : Nat), b < w.heap.size + 1 + 1 + 1 + 1 → (W.putObj (w.heap.size + 1 + 1 + 1 + 1) o).heap[b]? = W.heap[b]? := fun o b hb => World.putObj_heap_other (by omega)
      have hc := fun o => (cellD ((hp o w.heap.size (by omega)).trans hj.last) 0).1
      have hcf := fun o => (cellD ((hp o w.heap.size (by omega)).trans hj.last) 0).2
      have hround := fun x => Lib.hid (jj_round (busy := { rec with state := .busy }) hj x)
      gi_wp2
      exact ⟨let ⟨_, h⟩ := Array.getElem?_eq_some_iff.1 (hround _).out.1; h, (hround _).out.2.1, (hround _).out.2.2.1, (hround _).out.2.2.2⟩
  · rintro e W ⟨hv, hj⟩
    have hlt := (Array.getElem?_eq_some_iff.1 hj.loop).1
    refine ⟨hv, hj.loop, ?_⟩
    have hlast := (World.putObj_heap_other (w := W) (o := .loop { rec with state := .exhausted }) (show w.heap.size ≠ w.heap.size + 1 + 1 + 1 + 1 by omega)).trans hj.last
    have c0 := (cellD hlast 0).1
    go_wp2
    refine ⟨by simp, .inl ⟨_, _, rfl, run_takeDeferred ((World.putObj_heap_other (by omega)).trans hj.defs), ?_⟩⟩
    exact ⟨_, results_tmp rfl _ _ _, rfl, (hj.kp.trans ((kp_putObj _ _ _ fun b (hb : b < w.heap.size) => by omega).trans (kp_putObj _ _ _ fun b (hb : b < w.heap.size) => by omega))).to_below⟩
set_option maxRecDepth 100000 in
set_option maxHeartbeats 4000000 in
theorem way_0_2 (w : World) (l bb hb : Nat) (hne : bb ≠ hb) (J : Nat → World → Prop) (hJ : ∀ k W v, J k W → J k (W.setCell ⟨hb, 0, none⟩ v)) (hh : Hx w hb 12161962213042174405) (hbx : Bx w bb 2) (h0 : J 0 w)
    (hY : ∀ (k : Nat) (x : Int) (W : World), ((k = 0 ∧ x = 0)) → J k W → YieldAt Fence.wide 8 Tryz.prog l #[.int .i64 x] W fun e W' => e = .returned (.bool true) ∧ (J (k + 1) W' ∧ W'.heap[hb]? = W.heap[hb]? ∧ W'.heap[bb]? = W.heap[bb]?)) :
    Calls Tryz.prog 242 #[.func (.yield l) #[] #[], .pointer (some ⟨bb, 0, none⟩), .pointer (some ⟨hb, 0, none⟩)] w fun e W' => (∃ v, e = .returned v) ∧ J 1 W' := by
  have w00 : IntKind.u64.wrap 34818889723821797986818297246726129585 = 5889715042425931697 := by rfl
  have w01 : IntKind.u64.wrap 5889715042425931698 = 5889715042425931698 := by rfl
  have w02 : IntKind.u64.wrap 685653073 = 685653073 := by rfl
  have a0 : ∀ w : World, (convert 30 326 (.int .u64 685653073)).run Tryz.prog w = .ok (.float .f64 4739034883219783680) w := fun w => (run_convert_int_float w _ _ .u64 .f64 685653073 rfl Tryz.underlying326).trans (by rw [show floatOfInt .f64 685653073 = 4739034883219783680 by kernel_rfl])
  have b0 : ∀ w : World, (binOp .quo 326 (.float .f64 4746794007248502784) (.float .f64 4739034883219783680)).run Tryz.prog w = .ok (.float .f64 4614235115665066705) w := fun w => run_float_arith w .quo _ .f64 _ _ _ (by kernel_rfl)
  have c0 : ∀ w : World, (convert 3 326 (.int .i64 1)).run Tryz.prog w = .ok (.float .f64 4607182418800017408) w := fun w => (run_convert_int_float w _ _ .i64 .f64 1 rfl Tryz.underlying326).trans (by rw [show floatOfInt .f64 1 = 4607182418800017408 by kernel_rfl])
  have d0 : ∀ w : World, (binOp .mul 326 (.float .f64 4607182418800017408) (.float .f64 4614235115665066705)).run Tryz.prog w = .ok (.float .f64 4614235115665066705) w := fun w => run_float_arith w .mul _ .f64 _ _ _ (by kernel_rfl)
  have e0 : ∀ w : World, (convert 326 3 (.float .f64 4614235115665066705)).run Tryz.prog w = .ok (.int .i64 3) w := fun w => run_convert_float_int w _ _ .f64 .i64 _ _ rfl Tryz.underlying3 (by kernel_rfl)
  have HJ := Lib.hid (show _ ∧ _ from ⟨hJ, hY⟩)
  have H0 := Lib.hid (show _ ∧ _ ∧ _ from ⟨hh, hbx, h0⟩)
  have g0 := (cellD hbx 0).1
  clear hJ hY hh hbx h0
  refine (callsIn_wide (n := 9)).1 ?_
  refine callsIn_of_wp Tryz.func242 rfl trivial ?_ rfl
  simp only [Tryz.ntmps242, List.size_toArray, List.length_cons, List.length_nil, Nat.reduceAdd, Nat.reduceSub, Array.replicate_succ, Array.replicate_zero, List.push_toArray, List.append_toArray, List.nil_append, List.cons_append]
  gi_wp2
  gi_loopw [4] (fun p wr => (p = .int .i64 0 ∧ Hx wr hb 12161962213042174405 ∧ Bx wr bb 2 ∧ J 0 wr) ∨ (p = .int .i64 3 ∧ Hx wr hb 5889715042425931698 ∧ Bx wr bb 2 ∧ J 1 wr)) (fun p _ => if intOf p = 0 then 1 else 0)
  case atStart => exact .inl ⟨rfl, H0.out.1, H0.out.2.1, H0.out.2.2⟩
  case round =>
    rcases hrel with ⟨rfl, h1, h2, h3⟩ | ⟨rfl, h1, h2, h3⟩
    · have r0 := (cellD h1 0).1
      have r0f := (cellD h1 0).2
      have r1 := (cellD h2 0).1
      obtain ⟨fn, tmps, assign, body, hy, hR⟩ := HJ.out.2 0 0 wr (by simp) h3
      have H1 := Lib.hid (show _ ∧ _ from ⟨h1, h2⟩)
      clear h1 h2
      gi_wp2
      refine hR.mono ?_
      rintro e W3 ⟨rfl, hJ3, hh3, hb3⟩
      have s0 := (cellD (hh3.trans H1.out.1) 0).1
      have s0f := (cellD (hh3.trans H1.out.1) 0).2
      have s1 := (cellD (hb3.trans H1.out.2) 0).1
      have H3 := Lib.hid (show _ ∧ _ ∧ _ from ⟨hJ3, hh3.trans H1.out.1, hb3.trans H1.out.2⟩)
      clear hJ3 hh3 hb3
      gi_wp2
      exact ⟨.inr (⟨rfl, hx_set H3.out.2.1 _, bx_set hne H3.out.2.2 _, HJ.out.1 _ _ _ H3.out.1⟩), by simp [intOf]⟩
    · have r1 := (cellD h2 0).1
      gi_wp2
      first | go_end0 | refine bodyPost_ret (results_none rfl _ _ _) rfl ?_
      exact ⟨⟨_, rfl⟩, h3⟩
set_option maxRecDepth 100000 in
set_option maxHeartbeats 4000000 in
theorem jump_0_2 (w : World) : Calls Tryz.prog 125 #[.int .u64 12161962213042174405, .int .i64 2] w fun e w' => e = .returned (.int .i64 0) ∧ Below w.heap.size w w' := by
  refine (callsIn_wide (n := 9)).1 (callsIn_of_wp_marks Tryz.func125 rfl trivial (wpIn_wide.2 ?_) rfl)
  simp only [Tryz.ntmps125, List.size_toArray, List.length_cons, List.length_nil, Nat.reduceAdd, Nat.reduceSub, Array.replicate_succ, Array.replicate_zero, List.push_toArray, List.append_toArray, List.nil_append, List.cons_append]
  go_wp2_with (first
    | (go_at_call 194; refine (jway_calls _ _ _).mono ?_; rintro e w' ⟨rfl, rfl⟩))
  obtain ⟨W0, hW0⟩ : ∃ W0 : World, W0 = ((w.alloc (.cells #[.int .i64 (-1)] 3)).alloc (.cells #[.int .u64 12161962213042174405] 30)).alloc (.cells #[.int .i64 2] 3) := ⟨_, rfl⟩
  have b0 : W0.heap[w.heap.size]? = some (.cells #[.int .i64 (-1)] 3 (0, 0)) := by
    rw [hW0, heap_alloc_old _ _ (by simp; omega), heap_alloc_old _ _ (by simp)]
    exact heap_alloc_new w _
  have b1 : Hx W0 (w.heap.size + 1) 12161962213042174405 := by
    rw [hW0, Hx, heap_alloc_old _ _ (by simp)]
    simpa using heap_alloc_new (w.alloc (.cells #[.int .i64 (-1)] 3)) (.cells #[.int .u64 12161962213042174405] 30)
  have b2 : Bx W0 (w.heap.size + 1 + 1) 2 := by
    rw [hW0, Bx]
    simpa using heap_alloc_new ((w.alloc (.cells #[.int .i64 (-1)] 3)).alloc (.cells #[.int .u64 12161962213042174405] 30)) (.cells #[.int .i64 2] 3)
  have hB : Below w.heap.size w W0 := hW0 ▸ (((Below.refl _ _).alloc (Nat.le_refl _) _).alloc (by simp) _).alloc (by simp; omega) _
  have hsz : W0.heap.size = w.heap.size + 1 + 1 + 1 := by rw [hW0]; simp
  rw [← hW0]
  clear hW0
  have HB := Lib.hid (show _ ∧ _ ∧ _ ∧ _ from ⟨b0, b1, b2, hB⟩)
  clear b0 b1 b2 hB
  refine wp_rangeFunc_wide (gf := 242) (lb := #[.pointer (some ⟨w.heap.size + 1 + 1, 0, none⟩), .pointer (some ⟨w.heap.size + 1, 0, none⟩)]) rfl (enters_of Tryz.func242 (by kernel_rfl) rfl) ?_
  intro fn
  rw [hsz]
  generalize hrec : LRec fn _ _ _ _ _ = rec
  have hold : ∀ o1 o2 : Obj, ∀ b, b < w.heap.size + 1 + 1 + 1 → ((W0.alloc o1).alloc o2).heap[b]? = W0.heap[b]? := fun o1 o2 b hb => (heap_alloc_old _ _ (by simp; omega)).trans (heap_alloc_old _ _ (by omega))
  refine (way_0_2 ((W0.alloc (.deferred (some []))).alloc (.loop rec)) (w.heap.size + 1 + 1 + 1 + 1) (w.heap.size + 1 + 1) (w.heap.size + 1) (by omega) (fun k W => JJ w rec (if k = 0 then -1 else 0) W) (fun k W v hj => hj.set v _ rfl) ((hold _ _ _ (by omega)).trans HB.out.2.1) ((hold _ _ _ (by omega)).trans HB.out.2.2.1) ⟨(hold _ _ _ (by omega)).trans HB.out.1, ?_, ?_, ?_⟩ ?_).mono ?_
  · have := heap_alloc_new (W0.alloc (.deferred (some []))) (.loop rec)
    simpa [hsz] using this
  · rw [heap_alloc_old _ _ (by simp; omega)]
    have := heap_alloc_new W0 (.deferred (some []))
    simpa [hsz] using this
  · exact Kp.of_below (HB.out.2.2.2.trans (((Below.refl _ _).alloc (by omega) _).alloc (by simp; omega) _)) fun b hb => hb
  · rintro k x W hk hj
    rcases hk with ⟨rfl, rfl⟩
    all_goals
      have hl := hj.loop
      rw [← hrec] at hl
      have hlt := (Array.getElem?_eq_some_iff.1 hl).1
      refine yield_at hl rfl ?_
      gi_wp2
      refine ⟨let ⟨_, h⟩ := Array.getElem?_eq_some_iff.1 hj.loop; h, ?_⟩
      have hp : ∀ (o : Obj) (b : Nat), b < w.heap.size + 1 + 1 + 1 + 1 → (W.putObj (w.heap.size + 1 + 1 + 1 + 1) o).heap[b]? = W.heap[b]? := fun o b hb => World.putObj_heap_other (by omega)
      have hc := fun o => (cellD ((hp o w.heap.size (by omega)).trans hj.last) 0).1
      have hcf := fun o => (cellD ((hp o w.heap.size (by omega)).trans hj.last) 0).2
      have hround := fun x => Lib.hid (jj_round (busy := { rec with state := .busy }) hj x)
      gi_wp2
      exact ⟨let ⟨_, h⟩ := Array.getElem?_eq_some_iff.1 (hround _).out.1; h, (hround _).out.2.1, (hround _).out.2.2.1, (hround _).out.2.2.2⟩
  · rintro e W ⟨hv, hj⟩
    have hlt := (Array.getElem?_eq_some_iff.1 hj.loop).1
    refine ⟨hv, hj.loop, ?_⟩
    have hlast := (World.putObj_heap_other (w := W) (o := .loop { rec with state := .exhausted }) (show w.heap.size ≠ w.heap.size + 1 + 1 + 1 + 1 by omega)).trans hj.last
    have c0 := (cellD hlast 0).1
    go_wp2
    refine ⟨by simp, .inl ⟨_, _, rfl, run_takeDeferred ((World.putObj_heap_other (by omega)).trans hj.defs), ?_⟩⟩
    exact ⟨_, results_tmp rfl _ _ _, rfl, (hj.kp.trans ((kp_putObj _ _ _ fun b (hb : b < w.heap.size) => by omega).trans (kp_putObj _ _ _ fun b (hb : b < w.heap.size) => by omega))).to_below⟩
set_option maxRecDepth 100000 in
set_option maxHeartbeats 4000000 in
theorem way_1_2 (w : World) (l bb hb : Nat) (hne : bb ≠ hb) (J : Nat → World → Prop) (hJ : ∀ k W v, J k W → J k (W.setCell ⟨hb, 0, none⟩ v)) (hh : Hx w hb 12161961113530546194) (hbx : Bx w bb 2) (h0 : J 0 w)
    (hY : ∀ (k : Nat) (x : Int) (W : World), ((k = 0 ∧ x = 0)) → J k W → YieldAt Fence.wide 8 Tryz.prog l #[.int .i64 x] W fun e W' => e = .returned (.bool true) ∧ (J (k + 1) W' ∧ W'.heap[hb]? = W.heap[hb]? ∧ W'.heap[bb]? = W.heap[bb]?)) :
    Calls Tryz.prog 242 #[.func (.yield l) #[] #[], .pointer (some ⟨bb, 0, none⟩), .pointer (some ⟨hb, 0, none⟩)] w fun e W' => (∃ v, e = .returned v) ∧ J 1 W' := by
  have w00 : IntKind.u64.wrap 34818886575993062613505769249330022858 = 2160260968252557770 := by rfl
  have w01 : IntKind.u64.wrap 2160260968252557771 = 2160260968252557771 := by rfl
  have w02 : IntKind.u64.wrap 251487476 = 251487476 := by rfl
  have a0 : ∀ w : World, (convert 30 326 (.int .u64 251487476)).run Tryz.prog w = .ok (.float .f64 4732714528523943936) w := fun w => (run_convert_int_float w _ _ .u64 .f64 251487476 rfl Tryz.underlying326).trans (by rw [show floatOfInt .f64 251487476 = 4732714528523943936 by kernel_rfl])
  have b0 : ∀ w : World, (binOp .quo 326 (.float .f64 4746794007248502784) (.float .f64 4732714528523943936)).run Tryz.prog w = .ok (.float .f64 4620996719540856376) w := fun w => run_float_arith w .quo _ .f64 _ _ _ (by kernel_rfl)
  have c0 : ∀ w : World, (convert 3 326 (.int .i64 1)).run Tryz.prog w = .ok (.float .f64 4607182418800017408) w := fun w => (run_convert_int_float w _ _ .i64 .f64 1 rfl Tryz.underlying326).trans (by rw [show floatOfInt .f64 1 = 4607182418800017408 by kernel_rfl])
  have d0 : ∀ w : World, (binOp .mul 326 (.float .f64 4607182418800017408) (.float .f64 4620996719540856376)).run Tryz.prog w = .ok (.float .f64 4620996719540856376) w := fun w => run_float_arith w .mul _ .f64 _ _ _ (by kernel_rfl)
  have e0 : ∀ w : World, (convert 326 3 (.float .f64 4620996719540856376)).run Tryz.prog w = .ok (.int .i64 8) w := fun w => run_convert_float_int w _ _ .f64 .i64 _ _ rfl Tryz.underlying3 (by kernel_rfl)
  have HJ := Lib.hid (show _ ∧ _ from ⟨hJ, hY⟩)
  have H0 := Lib.hid (show _ ∧ _ ∧ _ from ⟨hh, hbx, h0⟩)
  have g0 := (cellD hbx 0).1
  clear hJ hY hh hbx h0
  refine (callsIn_wide (n := 9)).1 ?_
  refine callsIn_of_wp Tryz.func242 rfl trivial ?_ rfl
  simp only [Tryz.ntmps242, List.size_toArray, List.length_cons, List.length_nil, Nat.reduceAdd, Nat.reduceSub, Array.replicate_succ, Array.replicate_zero, List.push_toArray, List.append_toArray, List.nil_append, List.cons_append]
  gi_wp2
  gi_loopw [4] (fun p wr => (p = .int .i64 0 ∧ Hx wr hb 12161961113530546194 ∧ Bx wr bb 2 ∧ J 0 wr) ∨ (p = .int .i64 8 ∧ Hx wr hb 2160260968252557771 ∧ Bx wr bb 2 ∧ J 1 wr)) (fun p _ => if intOf p = 0 then 1 else 0)
  case atStart => exact .inl ⟨rfl, H0.out.1, H0.out.2.1, H0.out.2.2⟩
  case round =>
    rcases hrel with ⟨rfl, h1, h2, h3⟩ | ⟨rfl, h1, h2, h3⟩
    · have r0 := (cellD h1 0).1
      have r0f := (cellD h1 0).2
      have r1 := (cellD h2 0).1
      obtain ⟨fn, tmps, assign, body, hy, hR⟩ := HJ.out.2 0 0 wr (by simp) h3
      have H1 := Lib.hid (show _ ∧ _ from ⟨h1, h2⟩)
      clear h1 h2
      gi_wp2
      refine hR.mono ?_
      rintro e W3 ⟨rfl, hJ3, hh3, hb3⟩
      have s0 := (cellD (hh3.trans H1.out.1) 0).1
      have s0f := (cellD (hh3.trans H1.out.1) 0).2
      have s1 := (cellD (hb3.trans H1.out.2) 0).1
      have H3 := Lib.hid (show _ ∧ _ ∧ _ from ⟨hJ3, hh3.trans H1.out.1, hb3.trans H1.out.2⟩)
      clear hJ3 hh3 hb3
      gi_wp2
      exact ⟨.inr (⟨rfl, hx_set H3.out.2.1 _, bx_set hne H3.out.2.2 _, HJ.out.1 _ _ _ H3.out.1⟩), by simp [intOf]⟩
    · have r1 := (cellD h2 0).1
      gi_wp2
      first | go_end0 | refine bodyPost_ret (results_none rfl _ _ _) rfl ?_
      exact ⟨⟨_, rfl⟩, h3⟩
set_option maxRecDepth 100000 in
set_option maxHeartbeats 4000000 in
theorem jump_1_2 (w : World) : Calls Tryz.prog 125 #[.int .u64 12161961113530546194, .int .i64 2] w fun e w' => e = .returned (.int .i64 0) ∧ Below w.heap.size w w' := by
  refine (callsIn_wide (n := 9)).1 (callsIn_of_wp_marks Tryz.func125 rfl trivial (wpIn_wide.2 ?_) rfl)
  simp only [Tryz.ntmps125, List.size_toArray, List.length_cons, List.length_nil, Nat.reduceAdd, Nat.reduceSub, Array.replicate_succ, Array.replicate_zero, List.push_toArray, List.append_toArray, List.nil_append, List.cons_append]
  go_wp2_with (first
    | (go_at_call 194; refine (jway_calls _ _ _).mono ?_; rintro e w' ⟨rfl, rfl⟩))
  obtain ⟨W0, hW0⟩ : ∃ W0 : World, W0 = ((w.alloc (.cells #[.int .i64 (-1)] 3)).alloc (.cells #[.int .u64 12161961113530546194] 30)).alloc (.cells #[.int .i64 2] 3) := ⟨_, rfl⟩
  have b0 : W0.heap[w.heap.size]? = some (.cells #[.int .i64 (-1)] 3 (0, 0)) := by
    rw [hW0, heap_alloc_old _ _ (by simp; omega), heap_alloc_old _ _ (by simp)]
    exact heap_alloc_new w _
  have b1 : Hx W0 (w.heap.size + 1) 12161961113530546194 := by
    rw [hW0, Hx, heap_alloc_old _ _ (by simp)]
    simpa using heap_alloc_new (w.alloc (.cells #[.int .i64 (-1)] 3)) (.cells #[.int .u64 12161961113530546194] 30)
  have b2 : Bx W0 (w.heap.size + 1 + 1) 2 := by
    rw [hW0, Bx]
    simpa using heap_alloc_new ((w.alloc (.cells #[.int .i64 (-1)] 3)).alloc (.cells #[.int .u64 12161961113530546194] 30)) (.cells #[.int .i64 2] 3)
  have hB : Below w.heap.size w W0 := hW0 ▸ (((Below.refl _ _).alloc (Nat.le_refl _) _).alloc (by simp) _).alloc (by simp; omega) _
  have hsz : W0.heap.size = w.heap.size + 1 + 1 + 1 := by rw [hW0]; simp
  rw [← hW0]
  clear hW0
  have HB := Lib.hid (show _ ∧ _ ∧ _ ∧ _ from ⟨b0, b1, b2, hB⟩)
  clear b0 b1 b2 hB
  refine wp_rangeFunc_wide (gf := 242) (lb := #[.pointer (some ⟨w.heap.size + 1 + 1, 0, none⟩), .pointer (some ⟨w.heap.size + 1, 0, none⟩)]) rfl (enters_of Tryz.func242 (by kernel_rfl) rfl) ?_
  intro fn
  rw [hsz]
  generalize hrec : LRec fn _ _ _ _ _ = rec
  have hold : ∀ o1 o2 : Obj, ∀ b, b < w.heap.size + 1 + 1 + 1 → ((W0.alloc o1).alloc o2).heap[b]? = W0.heap[b]? := fun o1 o2 b hb => (heap_alloc_old _ _ (by simp; omega)).trans (heap_alloc_old _ _ (by omega))
  refine (way_1_2 ((W0.alloc (.deferred (some []))).alloc (.loop rec)) (w.heap.size + 1 + 1 + 1 + 1) (w.heap.size + 1 + 1) (w.heap.size + 1) (by omega) (fun k W => JJ w rec (if k = 0 then -1 else 0) W) (fun k W v hj => hj.set v _ rfl) ((hold _ _ _ (by omega)).trans HB.out.2.1) ((hold _ _ _ (by omega)).trans HB.out.2.2.1) ⟨(hold _ _ _ (by omega)).trans HB.out.1, ?_, ?_, ?_⟩ ?_).mono ?_
  · have := heap_alloc_new (W0.alloc (.deferred (some []))) (.loop rec)
    simpa [hsz] using this
  · rw [heap_alloc_old _ _ (by simp; omega)]
    have := heap_alloc_new W0 (.deferred (some []))
    simpa [hsz] using this
  · exact Kp.of_below (HB.out.2.2.2.trans (((Below.refl _ _).alloc (by omega) _).alloc (by simp; omega) _)) fun b hb => hb
  · rintro k x W hk hj
    rcases hk with ⟨rfl, rfl⟩
    all_goals
      have hl := hj.loop
      rw [← hrec] at hl
      have hlt := (Array.getElem?_eq_some_iff.1 hl).1
      refine yield_at hl rfl ?_
      gi_wp2
      refine ⟨let ⟨_, h⟩ := Array.getElem?_eq_some_iff.1 hj.loop; h, ?_⟩
      have hp : ∀ (o : Obj) (b : Nat), b < w.heap.size + 1 + 1 + 1 + 1 → (W.putObj (w.heap.size + 1 + 1 + 1 + 1) o).heap[b]? = W.heap[b]? := fun o b hb => World.putObj_heap_other (by omega)
      have hc := fun o => (cellD ((hp o w.heap.size (by omega)).trans hj.last) 0).1
      have hcf := fun o => (cellD ((hp o w.heap.size (by omega)).trans hj.last) 0).2
      have hround := fun x => Lib.hid (jj_round (busy := { rec with state := .busy }) hj x)
      gi_wp2
      exact ⟨let ⟨_, h⟩ := Array.getElem?_eq_some_iff.1 (hround _).out.1; h, (hround _).out.2.1, (hround _).out.2.2.1, (hround _).out.2.2.2⟩
  · rintro e W ⟨hv, hj⟩
    have hlt := (Array.getElem?_eq_some_iff.1 hj.loop).1
    refine ⟨hv, hj.loop, ?_⟩
    have hlast := (World.putObj_heap_other (w := W) (o := .loop { rec with state := .exhausted }) (show w.heap.size ≠ w.heap.size + 1 + 1 + 1 + 1 by omega)).trans hj.last
    have c0 := (cellD hlast 0).1
    go_wp2
    refine ⟨by simp, .inl ⟨_, _, rfl, run_takeDeferred ((World.putObj_heap_other (by omega)).trans hj.defs), ?_⟩⟩
    exact ⟨_, results_tmp rfl _ _ _, rfl, (hj.kp.trans ((kp_putObj _ _ _ fun b (hb : b < w.heap.size) => by omega).trans (kp_putObj _ _ _ fun b (hb : b < w.heap.size) => by omega))).to_below⟩
set_option maxRecDepth 100000 in
set_option maxHeartbeats 4000000 in
theorem way_2_2 (w : World) (l bb hb : Nat) (hne : bb ≠ hb) (J : Nat → World → Prop) (hJ : ∀ k W v, J k W → J k (W.setCell ⟨hb, 0, none⟩ v)) (hh : Hx w hb 12161960014018917983) (hbx : Bx w bb 2) (h0 : J 0 w)
    (hY : ∀ (k : Nat) (x : Int) (W : World), ((k = 0 ∧ x = 0) ∨ (k = 1 ∧ x = 1)) → J k W → YieldAt Fence.wide 8 Tryz.prog l #[.int .i64 x] W fun e W' => e = .returned (.bool true) ∧ (J (k + 1) W' ∧ W'.heap[hb]? = W.heap[hb]? ∧ W'.heap[bb]? = W.heap[bb]?)) :
    Calls Tryz.prog 242 #[.func (.yield l) #[] #[], .pointer (some ⟨bb, 0, none⟩), .pointer (some ⟨hb, 0, none⟩)] w fun e W' => (∃ v, e = .returned v) ∧ J 2 W' := by
  have w00 : IntKind.u64.wrap 34818883428164327240193241251933916131 = 16877550967788735459 := by rfl
  have w01 : IntKind.u64.wrap 16877550967788735460 = 16877550967788735460 := by rfl
  have w02 : IntKind.u64.wrap 1964805528 = 1964805528 := by rfl
  have a0 : ∀ w : World, (convert 30 326 (.int .u64 1964805528)).run Tryz.prog w = .ok (.float .f64 4746027799679074304) w := fun w => (run_convert_int_float w _ _ .u64 .f64 1964805528 rfl Tryz.underlying326).trans (by rw [show floatOfInt .f64 1964805528 = 4746027799679074304 by kernel_rfl])
  have b0 : ∀ w : World, (binOp .quo 326 (.float .f64 4746794007248502784) (.float .f64 4746027799679074304)).run Tryz.prog w = .ok (.float .f64 4607601141722686599) w := fun w => run_float_arith w .quo _ .f64 _ _ _ (by kernel_rfl)
  have c0 : ∀ w : World, (convert 3 326 (.int .i64 1)).run Tryz.prog w = .ok (.float .f64 4607182418800017408) w := fun w => (run_convert_int_float w _ _ .i64 .f64 1 rfl Tryz.underlying326).trans (by rw [show floatOfInt .f64 1 = 4607182418800017408 by kernel_rfl])
  have d0 : ∀ w : World, (binOp .mul 326 (.float .f64 4607182418800017408) (.float .f64 4607601141722686599)).run Tryz.prog w = .ok (.float .f64 4607601141722686599) w := fun w => run_float_arith w .mul _ .f64 _ _ _ (by kernel_rfl)
  have e0 : ∀ w : World, (convert 326 3 (.float .f64 4607601141722686599)).run Tryz.prog w = .ok (.int .i64 1) w := fun w => run_convert_float_int w _ _ .f64 .i64 _ _ rfl Tryz.underlying3 (by kernel_rfl)
  have w10 : IntKind.u64.wrap 48319307005034846553190979568560603220 = 7164868578522267732 := by rfl
  have w11 : IntKind.u64.wrap 7164868578522267733 = 7164868578522267733 := by rfl
  have w12 : IntKind.u64.wrap 834100482 = 834100482 := by rfl
  have a1 : ∀ w : World, (convert 30 326 (.int .u64 834100482)).run Tryz.prog w = .ok (.float .f64 4740280150342500352) w := fun w => (run_convert_int_float w _ _ .u64 .f64 834100482 rfl Tryz.underlying326).trans (by rw [show floatOfInt .f64 834100482 = 4740280150342500352 by kernel_rfl])
  have b1 : ∀ w : World, (binOp .quo 326 (.float .f64 4746794007248502784) (.float .f64 4740280150342500352)).run Tryz.prog w = .ok (.float .f64 4612979925674565068) w := fun w => run_float_arith w .quo _ .f64 _ _ _ (by kernel_rfl)
  have c1 : ∀ w : World, (convert 3 326 (.int .i64 2)).run Tryz.prog w = .ok (.float .f64 4611686018427387904) w := fun w => (run_convert_int_float w _ _ .i64 .f64 2 rfl Tryz.underlying326).trans (by rw [show floatOfInt .f64 2 = 4611686018427387904 by kernel_rfl])
  have d1 : ∀ w : World, (binOp .mul 326 (.float .f64 4611686018427387904) (.float .f64 4612979925674565068)).run Tryz.prog w = .ok (.float .f64 4617483525301935564) w := fun w => run_float_arith w .mul _ .f64 _ _ _ (by kernel_rfl)
  have e1 : ∀ w : World, (convert 326 3 (.float .f64 4617483525301935564)).run Tryz.prog w = .ok (.int .i64 5) w := fun w => run_convert_float_int w _ _ .f64 .i64 _ _ rfl Tryz.underlying3 (by kernel_rfl)
  have HJ := Lib.hid (show _ ∧ _ from ⟨hJ, hY⟩)
  have H0 := Lib.hid (show _ ∧ _ ∧ _ from ⟨hh, hbx, h0⟩)
  have g0 := (cellD hbx 0).1
  clear hJ hY hh hbx h0
  refine (callsIn_wide (n := 9)).1 ?_
  refine callsIn_of_wp Tryz.func242 rfl trivial ?_ rfl
  simp only [Tryz.ntmps242, List.size_toArray, List.length_cons, List.length_nil, Nat.reduceAdd, Nat.reduceSub, Array.replicate_succ, Array.replicate_zero, List.push_toArray, List.append_toArray, List.nil_append, List.cons_append]
  gi_wp2
  gi_loopw [4] (fun p wr => (p = .int .i64 0 ∧ Hx wr hb 12161960014018917983 ∧ Bx wr bb 2 ∧ J 0 wr) ∨ (p = .int .i64 1 ∧ Hx wr hb 16877550967788735460 ∧ Bx wr bb 2 ∧ J 1 wr) ∨ (p = .int .i64 5 ∧ Hx wr hb 7164868578522267733 ∧ Bx wr bb 2 ∧ J 2 wr)) (fun p _ => if intOf p = 0 then 2 else if intOf p = 1 then 1 else 0)
  case atStart => exact .inl ⟨rfl, H0.out.1, H0.out.2.1, H0.out.2.2⟩
  case round =>
    rcases hrel with ⟨rfl, h1, h2, h3⟩ | ⟨rfl, h1, h2, h3⟩ | ⟨rfl, h1, h2, h3⟩
    · have r0 := (cellD h1 0).1
      have r0f := (cellD h1 0).2
      have r1 := (cellD h2 0).1
      obtain ⟨fn, tmps, assign, body, hy, hR⟩ := HJ.out.2 0 0 wr (by simp) h3
      have H1 := Lib.hid (show _ ∧ _ from ⟨h1, h2⟩)
      clear h1 h2
      gi_wp2
      refine hR.mono ?_
      rintro e W3 ⟨rfl, hJ3, hh3, hb3⟩
      have s0 := (cellD (hh3.trans H1.out.1) 0).1
      have s0f := (cellD (hh3.trans H1.out.1) 0).2
      have s1 := (cellD (hb3.trans H1.out.2) 0).1
      have H3 := Lib.hid (show _ ∧ _ ∧ _ from ⟨hJ3, hh3.trans H1.out.1, hb3.trans H1.out.2⟩)
      clear hJ3 hh3 hb3
      gi_wp2
      exact ⟨.inr (.inl ⟨rfl, hx_set H3.out.2.1 _, bx_set hne H3.out.2.2 _, HJ.out.1 _ _ _ H3.out.1⟩), by simp [intOf]⟩
    · have r0 := (cellD h1 0).1
      have r0f := (cellD h1 0).2
      have r1 := (cellD h2 0).1
      obtain ⟨fn, tmps, assign, body, hy, hR⟩ := HJ.out.2 1 1 wr (by simp) h3
      have H1 := Lib.hid (show _ ∧ _ from ⟨h1, h2⟩)
      clear h1 h2
      gi_wp2
      refine hR.mono ?_
      rintro e W3 ⟨rfl, hJ3, hh3, hb3⟩
      have s0 := (cellD (hh3.trans H1.out.1) 0).1
      have s0f := (cellD (hh3.trans H1.out.1) 0).2
      have s1 := (cellD (hb3.trans H1.out.2) 0).1
      have H3 := Lib.hid (show _ ∧ _ ∧ _ from ⟨hJ3, hh3.trans H1.out.1, hb3.trans H1.out.2⟩)
      clear hJ3 hh3 hb3
      gi_wp2
      exact ⟨.inr (.inr (⟨rfl, hx_set H3.out.2.1 _, bx_set hne H3.out.2.2 _, HJ.out.1 _ _ _ H3.out.1⟩)), by simp [intOf]⟩
    · have r1 := (cellD h2 0).1
      gi_wp2
      first | go_end0 | refine bodyPost_ret (results_none rfl _ _ _) rfl ?_
      exact ⟨⟨_, rfl⟩, h3⟩
set_option maxRecDepth 100000 in
set_option maxHeartbeats 4000000 in
theorem jump_2_2 (w : World) : Calls Tryz.prog 125 #[.int .u64 12161960014018917983, .int .i64 2] w fun e w' => e = .returned (.int .i64 1) ∧ Below w.heap.size w w' := by
  refine (callsIn_wide (n := 9)).1 (callsIn_of_wp_marks Tryz.func125 rfl trivial (wpIn_wide.2 ?_) rfl)
  simp only [Tryz.ntmps125, List.size_toArray, List.length_cons, List.length_nil, Nat.reduceAdd, Nat.reduceSub, Array.replicate_succ, Array.replicate_zero, List.push_toArray, List.append_toArray, List.nil_append, List.cons_append]
  go_wp2_with (first
    | (go_at_call 194; refine (jway_calls _ _ _).mono ?_; rintro e w' ⟨rfl, rfl⟩))
  obtain ⟨W0, hW0⟩ : ∃ W0 : World, W0 = ((w.alloc (.cells #[.int .i64 (-1)] 3)).alloc (.cells #[.int .u64 12161960014018917983] 30)).alloc (.cells #[.int .i64 2] 3) := ⟨_, rfl⟩
  have b0 : W0.heap[w.heap.size]? = some (.cells #[.int .i64 (-1)] 3 (0, 0)) := by
    rw [hW0, heap_alloc_old _ _ (by simp; omega), heap_alloc_old _ _ (by simp)]
    exact heap_alloc_new w _
  have b1 : Hx W0 (w.heap.size + 1) 12161960014018917983 := by
    rw [hW0, Hx, heap_alloc_old _ _ (by simp)]
    simpa using heap_alloc_new (w.alloc (.cells #[.int .i64 (-1)] 3)) (.cells #[.int .u64 12161960014018917983] 30)
  have b2 : Bx W0 (w.heap.size + 1 + 1) 2 := by
    rw [hW0, Bx]
    simpa using heap_alloc_new ((w.alloc (.cells #[.int .i64 (-1)] 3)).alloc (.cells #[.int .u64 12161960014018917983] 30)) (.cells #[.int .i64 2] 3)
  have hB : Below w.heap.size w W0 := hW0 ▸ (((Below.refl _ _).alloc (Nat.le_refl _) _).alloc (by simp) _).alloc (by simp; omega) _
  have hsz : W0.heap.size = w.heap.size + 1 + 1 + 1 := by rw [hW0]; simp
  rw [← hW0]
  clear hW0
  have HB := Lib.hid (show _ ∧ _ ∧ _ ∧ _ from ⟨b0, b1, b2, hB⟩)
  clear b0 b1 b2 hB
  refine wp_rangeFunc_wide (gf := 242) (lb := #[.pointer (some ⟨w.heap.size + 1 + 1, 0, none⟩), .pointer (some ⟨w.heap.size + 1, 0, none⟩)]) rfl (enters_of Tryz.func242 (by kernel_rfl) rfl) ?_
  intro fn
  rw [hsz]
  generalize hrec : LRec fn _ _ _ _ _ = rec
  have hold : ∀ o1 o2 : Obj, ∀ b, b < w.heap.size + 1 + 1 + 1 → ((W0.alloc o1).alloc o2).heap[b]? = W0.heap[b]? := fun o1 o2 b hb => (heap_alloc_old _ _ (by simp; omega)).trans (heap_alloc_old _ _ (by omega))
  refine (way_2_2 ((W0.alloc (.deferred (some []))).alloc (.loop rec)) (w.heap.size + 1 + 1 + 1 + 1) (w.heap.size + 1 + 1) (w.heap.size + 1) (by omega) (fun k W => JJ w rec (if k = 0 then -1 else if k = 1 then 0 else 1) W) (fun k W v hj => hj.set v _ rfl) ((hold _ _ _ (by omega)).trans HB.out.2.1) ((hold _ _ _ (by omega)).trans HB.out.2.2.1) ⟨(hold _ _ _ (by omega)).trans HB.out.1, ?_, ?_, ?_⟩ ?_).mono ?_
  · have := heap_alloc_new (W0.alloc (.deferred (some []))) (.loop rec)
    simpa [hsz] using this
  · rw [heap_alloc_old _ _ (by simp; omega)]
    have := heap_alloc_new W0 (.deferred (some []))
    simpa [hsz] using this
  · exact Kp.of_below (HB.out.2.2.2.trans (((Below.refl _ _).alloc (by omega) _).alloc (by simp; omega) _)) fun b hb => hb
  · rintro k x W hk hj
    rcases hk with ⟨rfl, rfl⟩ | ⟨rfl, rfl⟩
    all_goals
      have hl := hj.loop
      rw [← hrec] at hl
      have hlt := (Array.getElem?_eq_some_iff.1 hl).1
      refine yield_at hl rfl ?_
      gi_wp2
      refine ⟨let ⟨_, h⟩ := Array.getElem?_eq_some_iff.1 hj.loop; h, ?_⟩
      have hp : ∀ (o : Obj) (b : Nat), b < w.heap.size + 1 + 1 + 1 + 1 → (W.putObj (w.heap.size + 1 + 1 + 1 + 1) o).heap[b]? = W.heap[b]? := fun o b hb => World.putObj_heap_other (by omega)
      have hc := fun o => (cellD ((hp o w.heap.size (by omega)).trans hj.last) 0).1
      have hcf := fun o => (cellD ((hp o w.heap.size (by omega)).trans hj.last) 0).2
      have hround := fun x => Lib.hid (jj_round (busy := { rec with state := .busy }) hj x)
      gi_wp2
      exact ⟨let ⟨_, h⟩ := Array.getElem?_eq_some_iff.1 (hround _).out.1; h, (hround _).out.2.1, (hround _).out.2.2.1, (hround _).out.2.2.2⟩
  · rintro e W ⟨hv, hj⟩
    have hlt := (Array.getElem?_eq_some_iff.1 hj.loop).1
    refine ⟨hv, hj.loop, ?_⟩
    have hlast := (World.putObj_heap_other (w := W) (o := .loop { rec with state := .exhausted }) (show w.heap.size ≠ w.heap.size + 1 + 1 + 1 + 1 by omega)).trans hj.last
    have c0 := (cellD hlast 0).1
    go_wp2
    refine ⟨by simp, .inl ⟨_, _, rfl, run_takeDeferred ((World.putObj_heap_other (by omega)).trans hj.defs), ?_⟩⟩
    exact ⟨_, results_tmp rfl _ _ _, rfl, (hj.kp.trans ((kp_putObj _ _ _ fun b (hb : b < w.heap.size) => by omega).trans (kp_putObj _ _ _ fun b (hb : b < w.heap.size) => by omega))).to_below⟩
set_option maxRecDepth 100000 in
set_option maxHeartbeats 4000000 in
theorem way_3_2 (w : World) (l bb hb : Nat) (hne : bb ≠ hb) (J : Nat → World → Prop) (hJ : ∀ k W v, J k W → J k (W.setCell ⟨hb, 0, none⟩ v)) (hh : Hx w hb 12161958914507289772) (hbx : Bx w bb 2) (h0 : J 0 w)
    (hY : ∀ (k : Nat) (x : Int) (W : World), ((k = 0 ∧ x = 0) ∨ (k = 1 ∧ x = 1)) → J k W → YieldAt Fence.wide 8 Tryz.prog l #[.int .i64 x] W fun e W' => e = .returned (.bool true) ∧ (J (k + 1) W' ∧ W'.heap[hb]? = W.heap[hb]? ∧ W'.heap[bb]? = W.heap[bb]?)) :
    Calls Tryz.prog 242 #[.func (.yield l) #[] #[], .pointer (some ⟨bb, 0, none⟩), .pointer (some ⟨hb, 0, none⟩)] w fun e W' => (∃ v, e = .returned v) ∧ J 2 W' := by
  have w00 : IntKind.u64.wrap 34818880280335591866880713254537809404 = 13148096893615361532 := by rfl
  have w01 : IntKind.u64.wrap 13148096893615361533 = 13148096893615361533 := by rfl
  have w02 : IntKind.u64.wrap 1530639932 = 1530639932 := by rfl
  have a0 : ∀ w : World, (convert 30 326 (.int .u64 1530639932)).run Tryz.prog w = .ok (.float .f64 4744206777183109120) w := fun w => (run_convert_int_float w _ _ .u64 .f64 1530639932 rfl Tryz.underlying326).trans (by rw [show floatOfInt .f64 1530639932 = 4744206777183109120 by kernel_rfl])
  have b0 : ∀ w : World, (binOp .quo 326 (.float .f64 4746794007248502784) (.float .f64 4744206777183109120)).run Tryz.prog w = .ok (.float .f64 4608997357161055432) w := fun w => run_float_arith w .quo _ .f64 _ _ _ (by kernel_rfl)
  have c0 : ∀ w : World, (convert 3 326 (.int .i64 1)).run Tryz.prog w = .ok (.float .f64 4607182418800017408) w := fun w => (run_convert_int_float w _ _ .i64 .f64 1 rfl Tryz.underlying326).trans (by rw [show floatOfInt .f64 1 = 4607182418800017408 by kernel_rfl])
  have d0 : ∀ w : World, (binOp .mul 326 (.float .f64 4607182418800017408) (.float .f64 4608997357161055432)).run Tryz.prog w = .ok (.float .f64 4608997357161055432) w := fun w => run_float_arith w .mul _ .f64 _ _ _ (by kernel_rfl)
  have e0 : ∀ w : World, (convert 326 3 (.float .f64 4608997357161055432)).run Tryz.prog w = .ok (.int .i64 1) w := fun w => run_convert_float_int w _ _ .f64 .i64 _ _ rfl Tryz.underlying3 (by kernel_rfl)
  have w10 : IntKind.u64.wrap 37642127791351137394907316248172233481 = 5907641135966651145 := by rfl
  have w11 : IntKind.u64.wrap 5907641135966651146 = 5907641135966651146 := by rfl
  have w12 : IntKind.u64.wrap 687739945 = 687739945 := by rfl
  have a1 : ∀ w : World, (convert 30 326 (.int .u64 687739945)).run Tryz.prog w = .ok (.float .f64 4739052389170937856) w := fun w => (run_convert_int_float w _ _ .u64 .f64 687739945 rfl Tryz.underlying326).trans (by rw [show floatOfInt .f64 687739945 = 4739052389170937856 by kernel_rfl])
  have b1 : ∀ w : World, (binOp .quo 326 (.float .f64 4746794007248502784) (.float .f64 4739052389170937856)).run Tryz.prog w = .ok (.float .f64 4614213715024142527) w := fun w => run_float_arith w .quo _ .f64 _ _ _ (by kernel_rfl)
  have c1 : ∀ w : World, (convert 3 326 (.int .i64 2)).run Tryz.prog w = .ok (.float .f64 4611686018427387904) w := fun w => (run_convert_int_float w _ _ .i64 .f64 2 rfl Tryz.underlying326).trans (by rw [show floatOfInt .f64 2 = 4611686018427387904 by kernel_rfl])
  have d1 : ∀ w : World, (binOp .mul 326 (.float .f64 4611686018427387904) (.float .f64 4614213715024142527)).run Tryz.prog w = .ok (.float .f64 4618717314651513023) w := fun w => run_float_arith w .mul _ .f64 _ _ _ (by kernel_rfl)
  have e1 : ∀ w : World, (convert 326 3 (.float .f64 4618717314651513023)).run Tryz.prog w = .ok (.int .i64 6) w := fun w => run_convert_float_int w _ _ .f64 .i64 _ _ rfl Tryz.underlying3 (by kernel_rfl)
  have HJ := Lib.hid (show _ ∧ _ from ⟨hJ, hY⟩)
  have H0 := Lib.hid (show _ ∧ _ ∧ _ from ⟨hh, hbx, h0⟩)
  have g0 := (cellD hbx 0).1
  clear hJ hY hh hbx h0
  refine (callsIn_wide (n := 9)).1 ?_
  refine callsIn_of_wp Tryz.func242 rfl trivial ?_ rfl
  simp only [Tryz.ntmps242, List.size_toArray, List.length_cons, List.length_nil, Nat.reduceAdd, Nat.reduceSub, Array.replicate_succ, Array.replicate_zero, List.push_toArray, List.append_toArray, List.nil_append, List.cons_append]
  gi_wp2
  gi_loopw [4] (fun p wr => (p = .int .i64 0 ∧ Hx wr hb 12161958914507289772 ∧ Bx wr bb 2 ∧ J 0 wr) ∨ (p = .int .i64 1 ∧ Hx wr hb 13148096893615361533 ∧ Bx wr bb 2 ∧ J 1 wr) ∨ (p = .int .i64 6 ∧ Hx wr hb 5907641135966651146 ∧ Bx wr bb 2 ∧ J 2 wr)) (fun p _ => if intOf p = 0 then 2 else if intOf p = 1 then 1 else 0)
  case atStart => exact .inl ⟨rfl, H0.out.1, H0.out.2.1, H0.out.2.2⟩
  case round =>
    rcases hrel with ⟨rfl, h1, h2, h3⟩ | ⟨rfl, h1, h2, h3⟩ | ⟨rfl, h1, h2, h3⟩
    · have r0 := (cellD h1 0).1
      have r0f := (cellD h1 0).2
      have r1 := (cellD h2 0).1
      obtain ⟨fn, tmps, assign, body, hy, hR⟩ := HJ.out.2 0 0 wr (by simp) h3
      have H1 := Lib.hid (show _ ∧ _ from ⟨h1, h2⟩)
      clear h1 h2
      gi_wp2
      refine hR.mono ?_
      rintro e W3 ⟨rfl, hJ3, hh3, hb3⟩
      have s0 := (cellD (hh3.trans H1.out.1) 0).1
      have s0f := (cellD (hh3.trans H1.out.1) 0).2
      have s1 := (cellD (hb3.trans H1.out.2) 0).1
      have H3 := Lib.hid (show _ ∧ _ ∧ _ from ⟨hJ3, hh3.trans H1.out.1, hb3.trans H1.out.2⟩)
      clear hJ3 hh3 hb3
      gi_wp2
      exact ⟨.inr (.inl ⟨rfl, hx_set H3.out.2.1 _, bx_set hne H3.out.2.2 _, HJ.out.1 _ _ _ H3.out.1⟩), by simp [intOf]⟩
    · have r0 := (cellD h1 0).1
      have r0f := (cellD h1 0).2
      have r1 := (cellD h2 0).1
      obtain ⟨fn, tmps, assign, body, hy, hR⟩ := HJ.out.2 1 1 wr (by simp) h3
      have H1 := Lib.hid (show _ ∧ _ from ⟨h1, h2⟩)
      clear h1 h2
      gi_wp2
      refine hR.mono ?_
      rintro e W3 ⟨rfl, hJ3, hh3, hb3⟩
      have s0 := (cellD (hh3.trans H1.out.1) 0).1
      have s0f := (cellD (hh3.trans H1.out.1) 0).2
      have s1 := (cellD (hb3.trans H1.out.2) 0).1
      have H3 := Lib.hid (show _ ∧ _ ∧ _ from ⟨hJ3, hh3.trans H1.out.1, hb3.trans H1.out.2⟩)
      clear hJ3 hh3 hb3
      gi_wp2
      exact ⟨.inr (.inr (⟨rfl, hx_set H3.out.2.1 _, bx_set hne H3.out.2.2 _, HJ.out.1 _ _ _ H3.out.1⟩)), by simp [intOf]⟩
    · have r1 := (cellD h2 0).1
      gi_wp2
      first | go_end0 | refine bodyPost_ret (results_none rfl _ _ _) rfl ?_
      exact ⟨⟨_, rfl⟩, h3⟩
set_option maxRecDepth 100000 in
set_option maxHeartbeats 4000000 in
theorem jump_3_2 (w : World) : Calls Tryz.prog 125 #[.int .u64 12161958914507289772, .int .i64 2] w fun e w' => e = .returned (.int .i64 1) ∧ Below w.heap.size w w' := by
  refine (callsIn_wide (n := 9)).1 (callsIn_of_wp_marks Tryz.func125 rfl trivial (wpIn_wide.2 ?_) rfl)
  simp only [Tryz.ntmps125, List.size_toArray, List.length_cons, List.length_nil, Nat.reduceAdd, Nat.reduceSub, Array.replicate_succ, Array.replicate_zero, List.push_toArray, List.append_toArray, List.nil_append, List.cons_append]
  go_wp2_with (first
    | (go_at_call 194; refine (jway_calls _ _ _).mono ?_; rintro e w' ⟨rfl, rfl⟩))
  obtain ⟨W0, hW0⟩ : ∃ W0 : World, W0 = ((w.alloc (.cells #[.int .i64 (-1)] 3)).alloc (.cells #[.int .u64 12161958914507289772] 30)).alloc (.cells #[.int .i64 2] 3) := ⟨_, rfl⟩
  have b0 : W0.heap[w.heap.size]? = some (.cells #[.int .i64 (-1)] 3 (0, 0)) := by
    rw [hW0, heap_alloc_old _ _ (by simp; omega), heap_alloc_old _ _ (by simp)]
    exact heap_alloc_new w _
  have b1 : Hx W0 (w.heap.size + 1) 12161958914507289772 := by
    rw [hW0, Hx, heap_alloc_old _ _ (by simp)]
    simpa using heap_alloc_new (w.alloc (.cells #[.int .i64 (-1)] 3)) (.cells #[.int .u64 12161958914507289772] 30)
  have b2 : Bx W0 (w.heap.size + 1 + 1) 2 := by
    rw [hW0, Bx]
    simpa using heap_alloc_new ((w.alloc (.cells #[.int .i64 (-1)] 3)).alloc (.cells #[.int .u64 12161958914507289772] 30)) (.cells #[.int .i64 2] 3)
  have hB : Below w.heap.size w W0 := hW0 ▸ (((Below.refl _ _).alloc (Nat.le_refl _) _).alloc (by simp) _).alloc (by simp; omega) _
  have hsz : W0.heap.size = w.heap.size + 1 + 1 + 1 := by rw [hW0]; simp
  rw [← hW0]
  clear hW0
  have HB := Lib.hid (show _ ∧ _ ∧ _ ∧ _ from ⟨b0, b1, b2, hB⟩)
  clear b0 b1 b2 hB
  refine wp_rangeFunc_wide (gf := 242) (lb := #[.pointer (some ⟨w.heap.size + 1 + 1, 0, none⟩), .pointer (some ⟨w.heap.size + 1, 0, none⟩)]) rfl (enters_of Tryz.func242 (by kernel_rfl) rfl) ?_
  intro fn
  rw [hsz]
  generalize hrec : LRec fn _ _ _ _ _ = rec
  have hold : ∀ o1 o2 : Obj, ∀ b, b < w.heap.size + 1 + 1 + 1 → ((W0.alloc o1).alloc o2).heap[b]? = W0.heap[b]? := fun o1 o2 b hb => (heap_alloc_old _ _ (by simp; omega)).trans (heap_alloc_old _ _ (by omega))
  refine (way_3_2 ((W0.alloc (.deferred (some []))).alloc (.loop rec)) (w.heap.size + 1 + 1 + 1 + 1) (w.heap.size + 1 + 1) (w.heap.size + 1) (by omega) (fun k W => JJ w rec (if k = 0 then -1 else if k = 1 then 0 else 1) W) (fun k W v hj => hj.set v _ rfl) ((hold _ _ _ (by omega)).trans HB.out.2.1) ((hold _ _ _ (by omega)).trans HB.out.2.2.1) ⟨(hold _ _ _ (by omega)).trans HB.out.1, ?_, ?_, ?_⟩ ?_).mono ?_
  · have := heap_alloc_new (W0.alloc (.deferred (some []))) (.loop rec)
    simpa [hsz] using this
  · rw [heap_alloc_old _ _ (by simp; omega)]
    have := heap_alloc_new W0 (.deferred (some []))
    simpa [hsz] using this
  · exact Kp.of_below (HB.out.2.2.2.trans (((Below.refl _ _).alloc (by omega) _).alloc (by simp; omega) _)) fun b hb => hb
  · rintro k x W hk hj
    rcases hk with ⟨rfl, rfl⟩ | ⟨rfl, rfl⟩
    all_goals
      have hl := hj.loop
      rw [← hrec] at hl
      have hlt := (Array.getElem?_eq_some_iff.1 hl).1
      refine yield_at hl rfl ?_
      gi_wp2
      refine ⟨let ⟨_, h⟩ := Array.getElem?_eq_some_iff.1 hj.loop; h, ?_⟩
      have hp : ∀ (o : Obj) (b : Nat), b < w.heap.size + 1 + 1 + 1 + 1 → (W.putObj (w.heap.size + 1 + 1 + 1 + 1) o).heap[b]? = W.heap[b]? := fun o b hb => World.putObj_heap_other (by omega)
      have hc := fun o => (cellD ((hp o w.heap.size (by omega)).trans hj.last) 0).1
      have hcf := fun o => (cellD ((hp o w.heap.size (by omega)).trans hj.last) 0).2
      have hround := fun x => Lib.hid (jj_round (busy := { rec with state := .busy }) hj x)
      gi_wp2
      exact ⟨let ⟨_, h⟩ := Array.getElem?_eq_some_iff.1 (hround _).out.1; h, (hround _).out.2.1, (hround _).out.2.2.1, (hround _).out.2.2.2⟩
  · rintro e W ⟨hv, hj⟩
    have hlt := (Array.getElem?_eq_some_iff.1 hj.loop).1
    refine ⟨hv, hj.loop, ?_⟩
    have hlast := (World.putObj_heap_other (w := W) (o := .loop { rec with state := .exhausted }) (show w.heap.size ≠ w.heap.size + 1 + 1 + 1 + 1 by omega)).trans hj.last
    have c0 := (cellD hlast 0).1
    go_wp2
    refine ⟨by simp, .inl ⟨_, _, rfl, run_takeDeferred ((World.putObj_heap_other (by omega)).trans hj.defs), ?_⟩⟩
    exact ⟨_, results_tmp rfl _ _ _, rfl, (hj.kp.trans ((kp_putObj _ _ _ fun b (hb : b < w.heap.size) => by omega).trans (kp_putObj _ _ _ fun b (hb : b < w.heap.size) => by omega))).to_below⟩
end Go.Proofs.YtokflmiijdpchaaGreat
