/- The commands' map: each operation of its first region, whatever came so far. -/
import Derived.Test.YtndpldhglnblfaaGreatDoorS2
import Derived.Conc.Own4
namespace Go.Proofs.YtndpldhglnblfaaGreatDoor
open Go.RowKit Go.Maps
noncomputable def deps (i : Nat) : List Nat := ((R1[i]?).map fun o => (o.after.toList.filter fun e => match e.ground with | .data => true | _ => false).map (·.on)).getD []
def OpIs (i : Nat) (X : Op) (d : Option Nat) : Prop := (R1[i]?).map (fun o => (o.op, o.dst, o.guard)) = some (X, d, none)
theorem OpIs.get {i : Nat} {X : Op} {d : Option Nat} (h : OpIs i X d) {o : Oper} (ho : R1[i]? = some o) : o.op = X ∧ o.dst = d ∧ o.guard = none := by
  unfold OpIs at h
  rw [ho] at h
  simp only [Option.map_some, Option.some.injEq, Prod.mk.injEq] at h
  exact h
/-- What stands as an operation's turn comes. -/
structure Tn (w0 : World) (S : Nat) (a0 : Act) (listed : Array Bool) (a : Act) (w : World) (i : Nat) (o : Oper) : Prop where
  h : RI w0 S a0 listed a w
  h0 : a0.tmps.size = 133
  hp : a0.eval (.tmp 0) = .pointer (some ⟨S, 0, none⟩)
  hl : listed.getD i true = false
  ho : R1[i]? = some o
  hd : ∀ e ∈ o.after, Region.binds .any e = true → listed.getD e.on false = true
section
variable {Q : Exit → Act → World → Prop} {w0 w : World} {S : Nat} {a0 a : Act} {listed : Array Bool} {i : Nat} {o : Oper}
theorem Tn.dep (T : Tn w0 S a0 listed a w i o) {j : Nat} (hj : (deps i).contains j = true) : listed.getD j false = true := by
  rw [List.contains_iff_mem] at hj
  unfold deps at hj
  rw [T.ho] at hj
  simp only [Option.map_some, Option.getD_some, List.mem_map, List.mem_filter] at hj
  obtain ⟨e, ⟨he, hg⟩, rfl⟩ := hj
  refine T.hd e (Array.mem_toList_iff.1 he) ?_
  cases e with
  | mk on ground => cases ground <;> simp_all [Region.binds]
theorem Tn.ad (T : Tn w0 S a0 listed a w i o) {j s off : Nat} (hj : (deps i).contains j = true) (hs : TB[j]? = some (some s, .ad off)) : a.eval (.tmp s) = .pointer (some ⟨S, off, none⟩) := T.h.vals j s _ hs (T.dep hj)
theorem Tn.fn (T : Tn w0 S a0 listed a w i o) {j s : Nat} {c : CT} (hj : (deps i).contains j = true) (hs : TB[j]? = some (some s, .fn c)) : IsC w S c (a.eval (.tmp s)) := T.h.vals j s _ hs (T.dep hj)
theorem Tn.zero (T : Tn w0 S a0 listed a w i o) : a.eval (.tmp 0) = .pointer (some ⟨S, 0, none⟩) := by
  rw [T.h.other 0 (by decide)]
  exact T.hp
theorem Tn.val (T : Tn w0 S a0 listed a w i o) {X : Op} {d : Nat} {sp : Sp} {v : Value} (hx : OpIs i X (some d)) (ht : TB[i]? = some (some d, sp)) (hi : i ≠ 0) (hd : d < 133)
    (hr : o.op = X → (execOp a.eval o).run Tryz.prog w = .ok (.value v) w) (hv : SpOK w S a v sp) (h8l : sp = .eq8 → listed.getD 0 false = true) : wpOp Tryz.prog R1 Q i (fun a' w' => RI w0 S a0 (listed.setIfInBounds i true) a' w') a w := by
  obtain ⟨h1, h2, h3⟩ := hx.get T.ho
  refine st_val T.ho h3 (hr h1) ?_
  rw [h2]
  exact T.h.next T.h0 ht T.hl v hi hd (Kc.refl _) (Below.refl _ _) hv h8l
theorem Tn.move (T : Tn w0 S a0 listed a w i o) {d : Nat} (hx : OpIs i (.move (.tmp 0)) (some d)) (ht : TB[i]? = some (some d, .ad 0)) (hi : i ≠ 0) (hd : d < 133) : wpOp Tryz.prog R1 Q i (fun a' w' => RI w0 S a0 (listed.setIfInBounds i true) a' w') a w :=
  T.val hx ht hi hd (v := .pointer (some ⟨S, 0, none⟩)) (fun h => by unfold execOp; simp only [h, T.zero]; rfl) rfl nofun
theorem Tn.nil (T : Tn w0 S a0 listed a w i o) {d s j off : Nat} (hx : OpIs i (.nilCheck (.tmp s)) (some d)) (ht : TB[i]? = some (some d, .ad off)) (hi : i ≠ 0) (hd : d < 133) (hj : (deps i).contains j = true) (hs : TB[j]? = some (some s, .ad off)) : wpOp Tryz.prog R1 Q i (fun a' w' => RI w0 S a0 (listed.setIfInBounds i true) a' w') a w :=
  T.val hx ht hi hd (v := .pointer (some ⟨S, off, none⟩)) (fun h => by unfold execOp; simp only [h, T.ad hj hs]; rfl) rfl nofun
theorem Tn.fld (T : Tn w0 S a0 listed a w i o) {d s j off t k off' : Nat} (hx : OpIs i (.fieldAddr t (.tmp s) k) (some d)) (ht : TB[i]? = some (some d, .ad off')) (hi : i ≠ 0) (hd : d < 133) (hj : (deps i).contains j = true) (hs : TB[j]? = some (some s, .ad off))
    (hf : (Instr.fieldAt t (.pointer (some ⟨S, off, none⟩)) k).run Tryz.prog w = .ok (.pointer (some ⟨S, off', none⟩)) w) : wpOp Tryz.prog R1 Q i (fun a' w' => RI w0 S a0 (listed.setIfInBounds i true) a' w') a w :=
  T.val hx ht hi hd (v := .pointer (some ⟨S, off', none⟩)) (fun h => by
    unfold execOp; simp only [h, T.ad hj hs]
    show ((Instr.fieldAt t (.pointer (some ⟨S, off, none⟩)) k) >>= fun x => pure (Next.value x)).run _ _ = _
    rw [Sem.run_bind, hf]
    rfl) rfl nofun
theorem Tn.mkf (T : Tn w0 S a0 listed a w i o) {d s j f : Nat} (hx : OpIs i (.makeFunc (.func f) #[.tmp s] #[]) (some d)) (ht : TB[i]? = some (some d, .fn (.meth f))) (hi : i ≠ 0) (hd : d < 133) (hj : (deps i).contains j = true) (hs : TB[j]? = some (some s, .ad 0)) : wpOp Tryz.prog R1 Q i (fun a' w' => RI w0 S a0 (listed.setIfInBounds i true) a' w') a w :=
  T.val hx ht hi hd (v := .func (.func f) #[.pointer (some ⟨S, 0, none⟩)] #[]) (fun h => by
    have e : (#[Operand.tmp s]).map a.eval = #[.pointer (some ⟨S, 0, none⟩)] := by simp [T.ad hj hs]
    have e2 : (#[] : Array Operand).map a.eval = #[] := by simp
    unfold execOp; simp only [h, e, e2]; rfl) rfl nofun
theorem Tn.mv8 (T : Tn w0 S a0 listed a w i o) {d : Nat} (hx : OpIs i (.move (.tmp 8)) (some d)) (ht : TB[i]? = some (some d, .eq8)) (hi : i ≠ 0) (hd : d < 133) (hj : (deps i).contains 0 = true) : wpOp Tryz.prog R1 Q i (fun a' w' => RI w0 S a0 (listed.setIfInBounds i true) a' w') a w :=
  T.val hx ht hi hd (v := a.eval (.tmp 8)) (fun h => by unfold execOp; simp only [h]; rfl) rfl (fun _ => T.dep hj)
theorem Tn.as8 (T : Tn w0 S a0 listed a w i o) {d s j : Nat} (hx : OpIs i (.assign (.tmp s)) (some d)) (ht : TB[i]? = some (some d, .eq8)) (hi : i ≠ 0) (hd : d < 133) (hj : (deps i).contains j = true) (hs : TB[j]? = some (some s, .eq8)) : wpOp Tryz.prog R1 Q i (fun a' w' => RI w0 S a0 (listed.setIfInBounds i true) a' w') a w :=
  T.val hx ht hi hd (v := a.eval (.tmp 8)) (fun h => by
    have e : a.eval (.tmp s) = a.eval (.tmp 8) := T.h.vals j s _ hs (T.dep hj)
    unfold execOp; simp only [h, e]; rfl) rfl (fun _ => T.h.late j s hs (T.dep hj))
theorem Tn.cn (T : Tn w0 S a0 listed a w i o) {d s j off : Nat} {ts : Array TypeId} (hx : OpIs i (.call { callee := .value (.func 16), args := #[.tmp s], argTypes := ts }) (some d)) (ht : TB[i]? = some (some d, .fn (.num off))) (hi : i ≠ 0) (hd : d < 133) (hj : (deps i).contains j = true) (hs : TB[j]? = some (some s, .ad off)) : wpOp Tryz.prog R1 Q i (fun a' w' => RI w0 S a0 (listed.setIfInBounds i true) a' w') a w := by
  obtain ⟨h1, h2, h3⟩ := hx.get T.ho
  have e : (#[Operand.tmp s]).map a.eval = #[.pointer (some ⟨S, off, none⟩)] := by simp [T.ad hj hs]
  refine st_call T.ho h3 (f := 16) (vs := #[.pointer (some ⟨S, off, none⟩)]) (by rw [← e]; exact Conc.run_call_body h1 Tryz.func16 (by kernel_rfl) (by kernel_rfl)) ((number_calls w (some ⟨S, off, none⟩)).mono fun e w' ⟨he, hw⟩ => ?_)
  subst hw
  refine ⟨_, he, ?_⟩
  rw [h2]
  exact T.h.next T.h0 ht T.hl _ hi hd (Kc.alloc _ _) ((Below.refl _ _).alloc (Nat.le_refl _) _) ⟨w.heap.size, rfl, cells_new _ _ _⟩ nofun
theorem two_new (w : World) (c d : Array Value) (t u : TypeId) : CellsAt ((w.alloc (.cells c t)).alloc (.cells d u)) w.heap.size c t ∧ CellsAt ((w.alloc (.cells c t)).alloc (.cells d u)) (w.heap.size + 1) d u ∧ Kc w ((w.alloc (.cells c t)).alloc (.cells d u)) ∧ Below w.heap.size w ((w.alloc (.cells c t)).alloc (.cells d u)) := by
  refine ⟨Kc.alloc _ _ _ _ _ (cells_new _ _ _), ?_, (Kc.alloc _ _).trans (Kc.alloc _ _), ((Below.refl _ _).alloc (Nat.le_refl _) _).alloc (by simp) _⟩
  have := cells_new (w.alloc (.cells c t)) d u
  simpa using this
theorem Tn.ca (T : Tn w0 S a0 listed a w i o) {d s j u l : Nat} {c : CT} {ts : Array TypeId} (hx : OpIs i (.call { callee := .value (.func 15), args := #[.tmp s, .tmp u], argTypes := ts }) (some d)) (ht : TB[i]? = some (some d, .fn (.ahead c))) (hi : i ≠ 0) (hd : d < 133) (hj : (deps i).contains j = true) (hs : TB[j]? = some (some s, .ad 0)) (hl : (deps i).contains l = true) (hu : TB[l]? = some (some u, .fn c)) : wpOp Tryz.prog R1 Q i (fun a' w' => RI w0 S a0 (listed.setIfInBounds i true) a' w') a w := by
  obtain ⟨h1, h2, h3⟩ := hx.get T.ho
  have hc := T.fn hl hu
  obtain ⟨f, x, y, hf⟩ := hc.func
  rw [hf] at hc
  have e : (#[Operand.tmp s, Operand.tmp u]).map a.eval = #[.pointer (some ⟨S, 0, none⟩), .func f x y] := by simp [T.ad hj hs, hf]
  refine st_call T.ho h3 (f := 15) (vs := #[.pointer (some ⟨S, 0, none⟩), .func f x y]) (by rw [← e]; exact Conc.run_call_body h1 Tryz.func15 (by kernel_rfl) (by kernel_rfl)) ((ahead_calls w (some ⟨S, 0, none⟩) f x y).mono fun e w' ⟨he, hw⟩ => ?_)
  subst hw
  obtain ⟨k1, k2, k3, k4⟩ := two_new w #[.pointer (some ⟨S, 0, none⟩)] #[.func f x y] 22 34
  refine ⟨_, he, ?_⟩
  rw [h2]
  exact T.h.next T.h0 ht T.hl _ hi hd k3 k4 ⟨w.heap.size, f, x, y, rfl, k1, k2, hc.keep k3⟩ nofun
theorem Tn.cd (T : Tn w0 S a0 listed a w i o) {d s j u l : Nat} {c : CT} {ts : Array TypeId} (hx : OpIs i (.call { callee := .value (.func 22), args := #[.tmp s, .tmp u], argTypes := ts }) (some d)) (ht : TB[i]? = some (some d, .fn (.during c))) (hi : i ≠ 0) (hd : d < 133) (hj : (deps i).contains j = true) (hs : TB[j]? = some (some s, .ad 0)) (hl : (deps i).contains l = true) (hu : TB[l]? = some (some u, .fn c)) : wpOp Tryz.prog R1 Q i (fun a' w' => RI w0 S a0 (listed.setIfInBounds i true) a' w') a w := by
  obtain ⟨h1, h2, h3⟩ := hx.get T.ho
  have hc := T.fn hl hu
  obtain ⟨f, x, y, hf⟩ := hc.func
  have e : (#[Operand.tmp s, Operand.tmp u]).map a.eval = #[.pointer (some ⟨S, 0, none⟩), .func f x y] := by simp [T.ad hj hs, hf]
  refine st_call T.ho h3 (f := 22) (vs := #[.pointer (some ⟨S, 0, none⟩), .func f x y]) (by rw [← e]; exact Conc.run_call_body h1 Tryz.func22 (by kernel_rfl) (by kernel_rfl)) ((during_calls w (some ⟨S, 0, none⟩) f x y).mono fun e w' ⟨he, hw⟩ => ?_)
  subst hw
  obtain ⟨k1, k2, k3, k4⟩ := two_new w #[.pointer (some ⟨S, 0, none⟩)] #[.func f x y] 22 34
  refine ⟨_, he, ?_⟩
  rw [h2]
  exact T.h.next T.h0 ht T.hl _ hi hd k3 k4 ⟨w.heap.size, rfl, k1⟩ nofun
theorem Tn.mapc (T : Tn w0 S a0 listed a w 0 o) (hx : OpIs 0 (.makeMap 42 none) (some 8)) : wpOp Tryz.prog R1 Q 0 (fun a' w' => RI w0 S a0 (listed.setIfInBounds 0 true) a' w') a w := by
  obtain ⟨h1, h2, h3⟩ := hx.get T.ho
  refine st_val (w1 := w.alloc (.map #[] 0)) (v := .map (some w.heap.size)) T.ho h3 (by unfold execOp; simp only [h1]; rfl) ?_
  rw [h2]
  exact T.h.map T.h0 T.hl
theorem Tn.ins (T : Tn w0 S a0 listed a w i o) {k l u : Nat} {p : List UInt8 × CT} (hx : OpIs i (.insert 42 (.tmp 8) (.const (.string ⟨p.1.toArray⟩)) (.tmp u)) none) (hX : IX[k]? = some i) (hp : KV[k]? = some p) (hj : (deps i).contains 0 = true) (hl : (deps i).contains l = true) (hu : TB[l]? = some (some u, .fn p.2)) : wpOp Tryz.prog R1 Q i (fun a' w' => RI w0 S a0 (listed.setIfInBounds i true) a' w') a w := by
  obtain ⟨h1, h2, h3⟩ := hx.get T.ho
  have hs : ∀ q ∈ KV, q.1.length ≤ 100 := by decide
  obtain ⟨M, w1, e8, hrun, hR⟩ := T.h.ins hX hp T.hl (T.dep hj) (T.fn hl hu) (hs p (List.mem_of_getElem? hp)) 42 Tryz.underlying42
  refine st_skip (w1 := w1) T.ho h3 ?_ ?_
  · unfold execOp
    simp only [h1]
    have e : (a.eval (.const (.string ⟨p.1.toArray⟩))) = .string ⟨p.1.toArray⟩ := rfl
    rw [e8, e, Sem.run_bind, hrun]
    rfl
  · rw [h2]
    exact hR
end
end Go.Proofs.YtndpldhglnblfaaGreatDoor
