/- What snapshots defer, where nothing was given up. -/
import Derived.Test.YtokflmiijdpchaaGreatD20
namespace Go.Proofs.YtokflmiijdpchaaGreat
open Go.RowKit
theorem wpS_region_draw {P : Program} {id : Nat} {ops : Array Oper} {Q : Exit → Act → List Frame → World → Prop} {a : Act} {cs : List Frame} {w : World} (h : ∀ t, wpOpsS P ops Q (Region.schedule (P.follows .mixedOrders) ops t) a cs { w with drawn := w.drawn + 1 }) : (Code.region id ops true).wpS P Q a cs w :=
  fun b k hb hr => let ⟨e, a', cs', w', q, r⟩ := wp_opsS _ a cs _ (h (w.tape w.drawn (.order b.fn id))) b k hb hr; ⟨e, a', cs', w', q, .of_steps (.one step_region_draw) r⟩
theorem wpS_cond' {P : Program} {Q : Exit → Act → List Frame → World → Prop} {a : Act} {cs : List Frame} {w : World} {c : Operand} {x y : Code} (hc : a.eval c = .bool false) (h : y.wpS P Q a cs w) : (Code.cond c x y).wpS P Q a cs w := wpS_cond hc (by simpa using h)
theorem scaught_nil (w : World) (x : Int) : Calls Tryz.prog 61 #[.nilIface, .int .i64 x] w fun e w' => e = .returned (.int .i64 x) ∧ w' = w := by
  go_enter Tryz.func61, Tryz.ntmps61
  go_wp2
  go_ret
  exact ⟨rfl, rfl⟩
theorem sched_of (ops : Array Oper) (hs : ops.size = 4) (h0 : Region.ready .any ops #[false, false, false, false] = [0, 1]) (h1 : Region.ready .any ops #[true, false, false, false] = [1]) (h2 : Region.ready .any ops #[false, true, false, false] = [0]) (h3 : Region.ready .any ops #[true, true, false, false] = [2]) (h4 : Region.ready .any ops #[true, true, true, false] = [3]) (hm : Tryz.prog.follows .mixedOrders = true) (t : Nat) :
    Region.schedule (Tryz.prog.follows .mixedOrders) ops t = [0, 1, 2, 3] ∨ Region.schedule (Tryz.prog.follows .mixedOrders) ops t = [1, 0, 2, 3] := by
  have two : ∀ (fuel t i j : Nat) (l : Array Bool) (acc : List Nat), Region.ready .any ops l = [i, j] → Region.linearise.go .any ops (fuel + 1) t l acc = Region.linearise.go .any ops fuel (t / 2) (l.setIfInBounds i true) (i :: acc) ∧ t % 2 = 0 ∨ Region.linearise.go .any ops (fuel + 1) t l acc = Region.linearise.go .any ops fuel (t / 2) (l.setIfInBounds j true) (j :: acc) ∧ t % 2 = 1 := fun fuel t i j l acc h => by
    change (match (Region.ready .any ops l)[t % (Region.ready .any ops l).length]? with | some i => Region.linearise.go .any ops fuel (t / (Region.ready .any ops l).length) (l.setIfInBounds i true) (i :: acc) | none => acc.reverse) = _ ∧ _ ∨ (match (Region.ready .any ops l)[t % (Region.ready .any ops l).length]? with | some i => Region.linearise.go .any ops fuel (t / (Region.ready .any ops l).length) (l.setIfInBounds i true) (i :: acc) | none => acc.reverse) = _ ∧ _
    rw [h]
    have hl : [i, j].length = 2 := rfl
    rw [hl]
    rcases Nat.mod_two_eq_zero_or_one t with ht | ht
    · exact .inl ⟨by rw [ht]; rfl, ht⟩
    · exact .inr ⟨by rw [ht]; rfl, ht⟩
  have one : ∀ (fuel t i : Nat) (l : Array Bool) (acc : List Nat), Region.ready .any ops l = [i] → Region.linearise.go .any ops (fuel + 1) t l acc = Region.linearise.go .any ops fuel (t / 1) (l.setIfInBounds i true) (i :: acc) := fun fuel t i l acc h => by
    change (match (Region.ready .any ops l)[t % (Region.ready .any ops l).length]? with | some i => Region.linearise.go .any ops fuel (t / (Region.ready .any ops l).length) (l.setIfInBounds i true) (i :: acc) | none => acc.reverse) = _
    rw [h]
    have hl : [i].length = 1 := rfl
    rw [hl, Nat.mod_one]
    rfl
  have e : Region.schedule (Tryz.prog.follows .mixedOrders) ops t = Region.linearise.go .any ops 4 t #[false, false, false, false] [] := by
    simp only [Region.schedule, hm, Bool.true_or, if_true, Region.linearise, hs]
    rfl
  rw [e]
  rcases two 3 t 0 1 #[false, false, false, false] [] h0 with ⟨h, -⟩ | ⟨h, -⟩
  · left
    rw [h]
    exact (one 2 _ 1 #[true, false, false, false] _ h1).trans ((one 1 _ 2 #[true, true, false, false] _ h3).trans ((one 0 _ 3 #[true, true, true, false] _ h4).trans rfl))
  · right
    rw [h]
    exact (one 2 _ 0 #[false, true, false, false] _ h2).trans ((one 1 _ 2 #[true, true, false, false] _ h3).trans ((one 0 _ 3 #[true, true, true, false] _ h4).trans rfl))
theorem wpS_region_four {id : Nat} {ops : Array Oper} {Q : Exit → Act → List Frame → World → Prop} {a : Act} {cs : List Frame} {w : World} (hs : ops.size = 4) (h0 : Region.ready .any ops #[false, false, false, false] = [0, 1]) (h1 : Region.ready .any ops #[true, false, false, false] = [1]) (h2 : Region.ready .any ops #[false, true, false, false] = [0]) (h3 : Region.ready .any ops #[true, true, false, false] = [2]) (h4 : Region.ready .any ops #[true, true, true, false] = [3]) (hm : Tryz.prog.follows .mixedOrders = true)
    (hA : wpOpsS Tryz.prog ops Q [0, 1, 2, 3] a cs w.drew) (hB : wpOpsS Tryz.prog ops Q [1, 0, 2, 3] a cs w.drew) : (Code.region id ops true).wpS Tryz.prog Q a cs w :=
  wpS_region_draw fun t => (sched_of ops hs h0 h1 h2 h3 h4 hm t).elim (fun h => by rw [h]; exact hA) (fun h => by rw [h]; exact hB)
set_option maxRecDepth 100000 in
set_option maxHeartbeats 2000000 in
theorem save1_walk (w : World) (eb xb s d : Nat) (f z g : Int) (dead : Bool) (he : w.cell? ⟨eb, 0, none⟩ = some (.int .i64 0)) (hef : w.frozen? ⟨eb, 0, none⟩ = false) (hx : w.cell? ⟨xb, 0, none⟩ = some (.pointer (some ⟨s, 0, none⟩))) (hs : Sht w s d f z g dead) (h1 : eb ≠ s) (h2 : xb ≠ eb) :
    CallsD Tryz.prog 133 #[.pointer (some ⟨eb, 0, none⟩), .pointer (some ⟨xb, 0, none⟩)] .returning w fun e u' w' => e = .returned (.tuple #[]) ∧ u' = .returning ∧ w' = ((w.setCell ⟨eb, 0, none⟩ (.int .i64 0)).setCell ⟨s, 4, none⟩ (.bool false)).drew := by
  have e1 : (w.setCell ⟨eb, 0, none⟩ (.int .i64 0)).cell? ⟨eb, 0, none⟩ = some (.int .i64 0) := World.cell?_setCell_same' _ _ _ (by rw [he]; rfl)
  have e2 : (w.setCell ⟨eb, 0, none⟩ (.int .i64 0)).cell? ⟨xb, 0, none⟩ = some (.pointer (some ⟨s, 0, none⟩)) := (World.cell?_setCell_other _ _ _ _ (fun e => h2 (by rw [Addr.mk.injEq] at e; exact e.1.symm))).trans hx
  have e3 : (w.setCell ⟨eb, 0, none⟩ (.int .i64 0)).cell? ⟨s, 4, none⟩ = some (.bool dead) := (World.cell?_setCell_other _ _ _ _ (fun e => h1 (by rw [Addr.mk.injEq] at e; exact e.1))).trans (cellD hs 4).1
  have e4 : w.frozen? ⟨s, 4, none⟩ = false := (cellD hs 4).2
  refine callsD_of_wpS Tryz.func133 rfl fun c₀ cs hu => ?_
  apply wpS_seq
  refine wpS_region_four (by kernel_rfl) (by kernel_rfl) (by kernel_rfl) (by kernel_rfl) (by kernel_rfl) (by kernel_rfl) (by kernel_rfl) ?_ ?_
  all_goals
    simp [wpOpsS, go_sem, recoverD, hu, he, Tryz.ntmps133, Exit.thenS]
    refine (scaught_nil _ 0).mono ?_
    rintro e w' ⟨rfl, rfl⟩
    simp [go_sem, he, hef]
    apply wpS_region
    simp [wpOpsS, go_sem, e1, e2, e3, e4]
    cases c₀
    simp_all [bodyPostS, results, Tryz.results133]
set_option maxRecDepth 100000 in
set_option maxHeartbeats 2000000 in
theorem sopen1_walk (w : World) (eb ob nb : Nat) (he : w.cell? ⟨eb, 0, none⟩ = some (.int .i64 0)) (hef : w.frozen? ⟨eb, 0, none⟩ = false) :
    CallsD Tryz.prog 60 #[.pointer (some ⟨eb, 0, none⟩), .pointer (some ⟨ob, 0, none⟩), .pointer (some ⟨nb, 0, none⟩)] .returning w fun e u' w' => e = .returned (.tuple #[]) ∧ u' = .returning ∧ w' = (w.setCell ⟨eb, 0, none⟩ (.int .i64 0)).drew := by
  have e1 : (w.setCell ⟨eb, 0, none⟩ (.int .i64 0)).cell? ⟨eb, 0, none⟩ = some (.int .i64 0) := World.cell?_setCell_same' _ _ _ (by rw [he]; rfl)
  refine callsD_of_wpS Tryz.func60 rfl fun c₀ cs hu => ?_
  apply wpS_seq
  refine wpS_region_four (by kernel_rfl) (by kernel_rfl) (by kernel_rfl) (by kernel_rfl) (by kernel_rfl) (by kernel_rfl) (by kernel_rfl) ?_ ?_
  all_goals
    simp [wpOpsS, go_sem, recoverD, hu, he, Tryz.ntmps60, Exit.thenS]
    refine (scaught_nil _ 0).mono ?_
    rintro e w' ⟨rfl, rfl⟩
    simp [go_sem, he, hef]
    apply wpS_seq
    apply wpS_region
    simp [wpOpsS, go_sem, e1, Exit.thenS]
    refine wpS_cond (t := false) (by simp [Act.eval, Array.replicate]) ?_
    simp only [Bool.false_eq_true, if_false]
    refine wpS_of_wp (wp_skip ?_)
    cases c₀
    simp_all [bodyPostS, results, Tryz.results60]
end Go.Proofs.YtokflmiijdpchaaGreat
