/- Commands of the shell: the closures that they are; a map that holds them. A region that draws its order, by what holds whatever has come so far. No program here. The commands' map: its first region, in whatever order. -/
import Derived.Test.YtndpldhglnblfaaGreatDoorProg
import Derived.WalkKit
import Derived.Lib.Hide
import Derived.Maps.RangeWalk
import Derived.Maps.OwnSet
import Derived.Maps.OwnOps
import Derived.Maps.Views
import Derived.BigQuiet
import Derived.Deep.QuietTactic
import Derived.Orders
import Derived.Deep.DeepCutAuto
import Derived.Great.Frames
namespace Go.Proofs.YtndpldhglnblfaaGreatDoor
open Go.RowKit Go.Maps
def numF (b : Nat) : Value := .func (.func 39) #[] #[.pointer (some ⟨b, 0, none⟩)]
def aheadF (b : Nat) : Value := .func (.func 38) #[] #[.pointer (some ⟨b, 0, none⟩), .pointer (some ⟨b + 1, 0, none⟩)]
def duringF (b : Nat) : Value := .func (.func 53) #[] #[.pointer (some ⟨b, 0, none⟩), .pointer (some ⟨b + 1, 0, none⟩)]
def callF (b : Nat) : Value := .func (.func 66) #[] #[.pointer (some ⟨b + 1, 0, none⟩), .pointer (some ⟨b, 0, none⟩)]
def actF (b : Nat) : Value := .func (.func 69) #[] #[.pointer (some ⟨b + 1, 0, none⟩), .pointer (some ⟨b, 0, none⟩)]
theorem number_calls (w : World) (a : Option Addr) : Calls Tryz.prog 16 #[.pointer a] w fun e w' => e = .returned (numF w.heap.size) ∧ w' = w.alloc (.cells #[.pointer a] 57) := by
  go_enter Tryz.func16, Tryz.ntmps16
  go_wp2
  go_ret
  exact ⟨rfl, rfl⟩
theorem ahead_calls (w : World) (a : Option Addr) (f : Fn) (x y : Array Value) : Calls Tryz.prog 15 #[.pointer a, .func f x y] w fun e w' => e = .returned (aheadF w.heap.size) ∧ w' = (w.alloc (.cells #[.pointer a] 22)).alloc (.cells #[.func f x y] 34) := by
  go_enter Tryz.func15, Tryz.ntmps15
  go_wp2
  go_ret
  exact ⟨by simp [aheadF], rfl⟩
theorem during_calls (w : World) (a : Option Addr) (f : Fn) (x y : Array Value) : Calls Tryz.prog 22 #[.pointer a, .func f x y] w fun e w' => e = .returned (duringF w.heap.size) ∧ w' = (w.alloc (.cells #[.pointer a] 22)).alloc (.cells #[.func f x y] 34) := by
  go_enter Tryz.func22, Tryz.ntmps22
  go_wp2
  go_ret
  exact ⟨by simp [duringF], rfl⟩
theorem call_calls (w : World) (a : Option Addr) (k : Int) : Calls Tryz.prog 30 #[.pointer a, .int .i64 k] w fun e w' => e = .returned (callF w.heap.size) ∧ w' = (w.alloc (.cells #[.pointer a] 22)).alloc (.cells #[.int .i64 k] 3) := by
  go_enter Tryz.func30, Tryz.ntmps30
  go_wp2
  go_ret
  exact ⟨by simp [callF], rfl⟩
theorem act_calls (w : World) (a : Option Addr) (s : ByteArray) (k : Int) : Calls Tryz.prog 31 #[.pointer a, .agg #[.string s, .int .i64 k]] w fun e w' => e = .returned (actF w.heap.size) ∧ w' = (w.alloc (.cells #[.pointer a] 22)).alloc (.cells #[.string s, .int .i64 k] 61) := by
  go_enter Tryz.func31, Tryz.ntmps31
  go_wp2
  go_ret
  exact ⟨by simp [actF], rfl⟩
/-- What an element reads as: itself. -/
def heldR (v : Value) : Option (DataW Value × List MemPlace) := some (.held v, [])
theorem lawS : Keyed Tryz.prog 9 := string_keyed Tryz.underlying9
/-- A literal's entry, or m[k] = v. -/
theorem wpList_putP {P : Program} {k e : TypeId} (K : Keyed P k) (w : World) {ops : Array Oper} {rest : List Oper} {o : Oper} {a : Act} {Q : Exit → Act → World → Prop} (hN : o.dst = none)
    (hg : o.guard = none) (m x v : Operand) (t : TypeId) (hop : o.op = Op.mapUpdate t m x v ∨ o.op = Op.insert t m x v) (ht : P.underlying t = some (.map k e)) (b n : Nat) (D : DataW Value)
    (hm : a.eval m = .map (some b)) (hown : w.ownsMap P k heldR b n D) (hn : n < maxLen) (key val : Value) (kl : Lit) (hkey : keyOf P k key = some kl) (hx : a.eval x = key) (hv : a.eval v = val)
    (hK : ∀ w', w'.ownsMap P k heldR b (n + 1) (D.put kl (.held val)) → w.grownBy w' (some b) → wpList P ops Q rest a w') :
    wpList P ops Q (o :: rest) a w := by
  refine wpList_plain hg fun K' hK' => ?_
  obtain ⟨w', hrun, r1, r2⟩ := hown.update K ht hn hkey (show heldR val = some (.held val, []) from rfl)
  have h : wpList P ops Q rest (a.put o.dst undef) w' := by rw [hN]; exact hK w' r1 r2
  unfold Oper.wp
  rcases hop with hop | hop
  · simp [execOp, hop, hm, hx, hv, hrun, Result.andThen]
    exact hK' _ _ h
  · simp [execOp, hop, hm, hx, hv, hrun, Result.andThen]
    exact hK' _ _ h
/-- A block of cells. -/
def CellsAt (w : World) (b : Nat) (c : Array Value) (t : TypeId) : Prop := w.heap[b]? = some (.cells c t (0, 0))
/-- Blocks of cells stay. -/
def Kc (w w' : World) : Prop := ∀ b c t, CellsAt w b c t → CellsAt w' b c t
theorem Kc.refl (w : World) : Kc w w := fun _ _ _ h => h
theorem Kc.trans {w1 w2 w3 : World} (h : Kc w1 w2) (k : Kc w2 w3) : Kc w1 w3 := fun b c t hb => k b c t (h b c t hb)
theorem Kc.of_below {w w' : World} (h : Below w.heap.size w w') : Kc w w' := fun b _ _ hb => (h.block b (Array.getElem?_eq_some_iff.1 hb).1).trans hb
theorem Kc.alloc (w : World) (o : Obj) : Kc w (w.alloc o) := Kc.of_below ((Below.refl _ _).alloc (Nat.le_refl _) _)
theorem cells_new (w : World) (c : Array Value) (t : TypeId) : CellsAt (w.alloc (.cells c t)) w.heap.size c t := heap_alloc_new w _
/-- The commands' map as it grows. -/
structure CM (w0 w : World) (M n : Nat) (D : DataW Value) : Prop where
  own : w.ownsMap Tryz.prog 9 heldR M n D
  ge : w0.heap.size ≤ M
  below : Below w0.heap.size w0 w
theorem CM.alloc {w0 w : World} {M n : Nat} {D : DataW Value} (h : CM w0 w M n D) (o : Obj) : CM w0 (w.alloc o) M n D := ⟨h.own.alloc o, h.ge, h.below.alloc h.below.size _⟩
theorem CM.kc {w0 w w' : World} {M n : Nat} {D : DataW Value} (h : CM w0 w M n D) (hg : w.grownBy w' (some M)) : Kc w w' := fun b c t hb => by
  refine (hg.block b (Array.getElem?_eq_some_iff.1 hb).1 fun e => ?_).trans hb
  obtain ⟨es, ck, hm, _⟩ := h.own
  have hb' : w.heap[b]? = some (.cells c t (0, 0)) := hb
  rw [Option.some.inj e, hm] at hb'
  cases hb'
theorem number_cm {w0 w : World} {M n : Nat} {D : DataW Value} (h : CM w0 w M n D) (a : Option Addr) : Calls Tryz.prog 16 #[.pointer a] w fun e w' => ∃ b, e = .returned (numF b) ∧ CM w0 w' M n D ∧ CellsAt w' b #[.pointer a] 57 ∧ w0.heap.size ≤ b ∧ Kc w w' :=
  (number_calls w a).mono fun e w' ⟨he, hw⟩ => by
    subst hw
    exact ⟨_, he, h.alloc _, cells_new _ _ _, h.below.size, Kc.alloc _ _⟩
theorem two_cm {w0 w : World} {M n : Nat} {D : DataW Value} (h : CM w0 w M n D) (c d : Array Value) (t u : TypeId) : CM w0 ((w.alloc (.cells c t)).alloc (.cells d u)) M n D ∧ CellsAt ((w.alloc (.cells c t)).alloc (.cells d u)) w.heap.size c t ∧ CellsAt ((w.alloc (.cells c t)).alloc (.cells d u)) (w.heap.size + 1) d u ∧ Kc w ((w.alloc (.cells c t)).alloc (.cells d u)) := by
  refine ⟨(h.alloc _).alloc _, Kc.alloc _ _ _ _ _ (cells_new _ _ _), ?_, (Kc.alloc _ _).trans (Kc.alloc _ _)⟩
  have := cells_new (w.alloc (.cells c t)) d u
  simpa using this
theorem ahead_cm {w0 w : World} {M n : Nat} {D : DataW Value} (h : CM w0 w M n D) (a : Option Addr) (f : Fn) (x y : Array Value) : Calls Tryz.prog 15 #[.pointer a, .func f x y] w fun e w' => ∃ b, e = .returned (aheadF b) ∧ CM w0 w' M n D ∧ CellsAt w' b #[.pointer a] 22 ∧ CellsAt w' (b + 1) #[.func f x y] 34 ∧ w0.heap.size ≤ b ∧ Kc w w' :=
  (ahead_calls w a f x y).mono fun e w' ⟨he, hw⟩ => by
    subst hw
    obtain ⟨h1, h2, h3, h4⟩ := two_cm h #[.pointer a] #[.func f x y] 22 34
    exact ⟨_, he, h1, h2, h3, h.below.size, h4⟩
theorem during_cm {w0 w : World} {M n : Nat} {D : DataW Value} (h : CM w0 w M n D) (a : Option Addr) (f : Fn) (x y : Array Value) : Calls Tryz.prog 22 #[.pointer a, .func f x y] w fun e w' => ∃ b, e = .returned (duringF b) ∧ CM w0 w' M n D ∧ CellsAt w' b #[.pointer a] 22 ∧ w0.heap.size ≤ b ∧ Kc w w' :=
  (during_calls w a f x y).mono fun e w' ⟨he, hw⟩ => by
    subst hw
    obtain ⟨h1, h2, _, h4⟩ := two_cm h #[.pointer a] #[.func f x y] 22 34
    exact ⟨_, he, h1, h2, h.below.size, h4⟩
theorem wpList_cm {w0 w : World} {M n : Nat} {D : DataW Value} (h : CM w0 w M n D) {ops : Array Oper} {rest : List Oper} {o : Oper} {a : Act} {Q : Exit → Act → World → Prop} (hN : o.dst = none)
    (hg : o.guard = none) (m x v : Operand) (hop : o.op = Op.mapUpdate 42 m x v ∨ o.op = Op.insert 42 m x v) 
    (hm : a.eval m = .map (some M)) (hn : n < maxLen) (s : ByteArray) (hs : s.size ≤ maxLen) (val : Value) (hx : a.eval x = .string s) (hv : a.eval v = val)
    (hK : ∀ w', CM w0 w' M (n + 1) (D.put (.string s.data.toList) (.held val)) → Kc w w' → wpList Tryz.prog ops Q rest a w') :
    wpList Tryz.prog ops Q (o :: rest) a w :=
  wpList_putP lawS w hN hg m x v _ hop Tryz.underlying42 M n D hm h.own hn _ val _ (Go.WideMaps.keyOf_string_mk Tryz.underlying9 hs) hx hv fun w' ho hgr =>
    hK w' ⟨ho, h.ge, h.below.grown hgr h.below.size (fun k hk => by cases hk; exact h.ge)⟩ (h.kc hgr)
end Go.Proofs.YtndpldhglnblfaaGreatDoor
namespace Go.Proofs.YtndpldhglnblfaaGreatDoor
section
variable {P : Program} {ops : Array Oper} {Q : Exit → Act → World → Prop} {md : Region.Mode}
/-- How many are still to come. -/
def leftOver (listed : Array Bool) : Nat := listed.toList.countP fun b => !b
theorem leftOver_set {listed : Array Bool} {i : Nat} (hi : i < listed.size) (h : listed.getD i true = false) : leftOver (listed.setIfInBounds i true) + 1 = leftOver listed := by
  have h' : listed.toList[i]? = some false := by
    rw [Array.getElem?_toList, Array.getElem?_eq_getElem hi]
    rw [Array.getD_eq_getD_getElem?, Array.getElem?_eq_getElem hi] at h
    simpa using h
  unfold leftOver
  rw [Array.toList_setIfInBounds]
  generalize listed.toList = l at *
  clear h hi
  induction l generalizing i with
  | nil => simp at h'
  | cons b l ih =>
    cases i with
    | zero =>
      simp only [List.getElem?_cons_zero, Option.some.injEq] at h'
      subst h'
      simp
    | succ i =>
      have := ih (by simpa using h')
      simp only [List.set_cons_succ, List.countP_cons]
      omega
theorem leftOver_zero {listed : Array Bool} (h : leftOver listed = 0) : ∀ i, i < listed.size → listed.getD i false = true := by
  intro i hi
  unfold leftOver at h
  rw [List.countP_eq_zero] at h
  have := h listed[i] (by simp [Array.mem_toList_iff])
  rw [Array.getD_eq_getD_getElem?, Array.getElem?_eq_getElem hi]
  simpa using this
/-- Where nothing may come, all has come: what an operation waits for stands ahead of it. -/
theorem all_listed {listed : Array Bool} (hs : listed.size = ops.size) (hb : ∀ (i : Nat) (o : Oper), ops[i]? = some o → ∀ e ∈ o.after, e.on < i) (h : Region.ready md ops listed = []) : ∀ i, i < ops.size → listed.getD i false = true := by
  intro i
  induction i using Nat.strongRecOn with
  | ind i ih =>
    intro hi
    have ho : ops[i]? = some ops[i] := Array.getElem?_eq_getElem hi
    have hn : i ∉ Region.ready md ops listed := by rw [h]; simp
    rw [mem_ready] at hn
    cases hl : listed.getD i true with
    | true =>
      rw [Array.getD_eq_getD_getElem?, Array.getElem?_eq_getElem (by omega)] at hl ⊢
      simpa using hl
    | false =>
      refine absurd ⟨hl, _, ho, fun e he _ => ?_⟩ hn
      have hlt := hb i _ ho e he
      exact ih e.on hlt (by omega)
/-- WHAT HOLDS WHATEVER HAS COME SO FAR, holds at the end. -/
theorem wpAny_inv (Inv : Array Bool → Act → World → Prop) (hb : ∀ (i : Nat) (o : Oper), ops[i]? = some o → ∀ e ∈ o.after, e.on < i)
    (hstep : ∀ (listed : Array Bool) (a : Act) (w : World) (i : Nat) (o : Oper), Inv listed a w → ops[i]? = some o → listed.getD i true = false → (∀ e ∈ o.after, Region.binds md e = true → listed.getD e.on false = true) → wpOp P ops Q i (fun a' w' => Inv (listed.setIfInBounds i true) a' w') a w)
    (hend : ∀ (listed : Array Bool) (a : Act) (w : World), Inv listed a w → (∀ i, i < ops.size → listed.getD i false = true) → Q .normal a w) :
    ∀ (fuel : Nat) (listed : Array Bool) (a : Act) (w : World), listed.size = ops.size → leftOver listed ≤ fuel → Inv listed a w → wpAny P md ops Q fuel listed a w
  | 0, listed, a, w, hs, hf, hi => by
    have hall := leftOver_zero (Nat.le_zero.1 hf)
    have hr : Region.ready md ops listed = [] := by
      rw [List.eq_nil_iff_forall_not_mem]
      intro j hj
      obtain ⟨h0, o, ho, _⟩ := mem_ready.1 hj
      have hlt := (Array.getElem?_eq_some_iff.1 ho).1
      have := hall j (by omega)
      rw [Array.getD_eq_getD_getElem?, Array.getElem?_eq_getElem (by omega)] at h0 this
      simp at h0 this
      rw [h0] at this
      cases this
    exact ⟨hr, hend listed a w hi fun i hi => hall i (by omega)⟩
  | fuel + 1, listed, a, w, hs, hf, hi => by
    refine ⟨fun hr => hend listed a w hi (all_listed hs hb hr), fun i hr => ?_⟩
    obtain ⟨h0, o, ho, hall⟩ := mem_ready.1 hr
    have hlt := (Array.getElem?_eq_some_iff.1 ho).1
    have hl := leftOver_set (by omega) h0
    exact wpOp_mono (fun a' w' h => wpAny_inv Inv hb hstep hend fuel _ a' w' (by simpa using hs) (by omega) h) (hstep listed a w i o hi ho h0 hall)
end
end Go.Proofs.YtndpldhglnblfaaGreatDoor
namespace Go.Proofs.YtndpldhglnblfaaGreatDoor
open Go.RowKit Go.Maps
/-- What a command is. -/
inductive CT where
  | num (off : Nat)
  | meth (f : Nat)
  | ahead (c : CT)
  | during (c : CT)
def IsC (w : World) (S : Nat) : CT → Value → Prop
  | .num off, v => ∃ b, v = numF b ∧ CellsAt w b #[.pointer (some ⟨S, off, none⟩)] 57
  | .meth f, v => v = .func (.func f) #[.pointer (some ⟨S, 0, none⟩)] #[]
  | .ahead c, v => ∃ b f x y, v = aheadF b ∧ CellsAt w b #[.pointer (some ⟨S, 0, none⟩)] 22 ∧ CellsAt w (b + 1) #[.func f x y] 34 ∧ IsC w S c (.func f x y)
  | .during _, v => ∃ b, v = duringF b ∧ CellsAt w b #[.pointer (some ⟨S, 0, none⟩)] 22
theorem IsC.keep {w w' : World} (hk : Kc w w') {S : Nat} : ∀ {c : CT} {v : Value}, IsC w S c v → IsC w' S c v
  | .num _, _, ⟨b, h1, h2⟩ => ⟨b, h1, hk _ _ _ h2⟩
  | .meth _, _, h => h
  | .ahead _, _, ⟨b, f, x, y, h1, h2, h3, h4⟩ => ⟨b, f, x, y, h1, hk _ _ _ h2, hk _ _ _ h3, IsC.keep hk h4⟩
  | .during _, _, ⟨b, h1, h2⟩ => ⟨b, h1, hk _ _ _ h2⟩
theorem IsC.func {w : World} {S : Nat} : ∀ {c : CT} {v : Value}, IsC w S c v → ∃ f x y, v = .func f x y
  | .num _, _, ⟨_, h1, _⟩ => ⟨_, _, _, h1⟩
  | .meth _, _, h => ⟨_, _, _, h⟩
  | .ahead _, _, ⟨_, _, _, _, h1, _⟩ => ⟨_, _, _, h1⟩
  | .during _, _, ⟨_, h1, _⟩ => ⟨_, _, _, h1⟩
inductive Sp where
  | ad (off : Nat)
  | fn (c : CT)
  | eq8
  | ins (k : Nat)
  | no
def SpOK (w : World) (S : Nat) (a : Act) (v : Value) : Sp → Prop
  | .ad off => v = .pointer (some ⟨S, off, none⟩)
  | .fn c => IsC w S c v
  | .eq8 => v = a.eval (.tmp 8)
  | _ => True
def TB : List (Option Nat × Sp) := [(some 8, .no), (some 9, .ad 0), (some 10, .ad 0), (some 11, .ad 0), (some 12, .ad 0), (some 13, .ad 0), (some 14, .fn (.num 0)), (some 15, .fn (.ahead (.num 0))), (none, .ins 0), (some 16, .ad 0), (some 17, .ad 0), (some 18, .ad 0), (some 19, .ad 0), (some 20, .ad 1), (some 21, .fn (.num 1)), (some 22, .fn (.ahead (.num 1))), (none, .ins 1), (some 23, .ad 0), (some 24, .ad 0), (some 25, .ad 0), (some 26, .ad 0), (some 27, .ad 2), (some 28, .fn (.num 2)), (some 29, .fn (.ahead (.num 2))), (none, .ins 2), (some 30, .ad 0), (some 31, .ad 0), (some 32, .ad 0), (some 33, .ad 0), (some 34, .ad 3), (some 35, .ad 3), (some 36, .fn (.num 3)), (some 37, .fn (.ahead (.num 3))), (none, .ins 3), (some 38, .ad 0), (some 39, .ad 0), (some 40, .ad 0), (some 41, .ad 0), (some 42, .ad 3), (some 43, .ad 4), (some 44, .fn (.num 4)), (some 45, .fn (.ahead (.num 4))), (none, .ins 4), (some 46, .ad 0), (some 47, .ad 0), (some 48, .fn (.meth 17)), (some 49, .fn (.ahead (.meth 17))), (none, .ins 5), (some 50, .ad 0), (some 51, .ad 0), (some 52, .fn (.meth 18)), (some 53, .fn (.ahead (.meth 18))), (none, .ins 6), (some 54, .ad 0), (some 55, .ad 0), (some 56, .fn (.meth 19)), (some 57, .fn (.ahead (.meth 19))), (none, .ins 7), (some 58, .ad 0), (some 59, .fn (.meth 20)), (none, .ins 8), (some 60, .ad 0), (some 61, .fn (.meth 21)), (none, .ins 9), (some 62, .ad 0), (some 63, .ad 0), (some 64, .fn (.meth 23)), (some 65, .fn (.during (.meth 23))), (none, .ins 10), (some 66, .ad 0), (some 67, .ad 0), (some 68, .fn (.meth 24)), (some 69, .fn (.during (.meth 24))), (none, .ins 11), (some 70, .ad 0), (some 71, .ad 0), (some 72, .fn (.meth 25)), (some 73, .fn (.during (.meth 25))), (none, .ins 12), (some 74, .ad 0), (some 75, .ad 0), (some 76, .fn (.meth 26)), (some 77, .fn (.during (.meth 26))), (none, .ins 13), (some 78, .ad 0), (some 79, .ad 0), (some 80, .fn (.meth 27)), (some 81, .fn (.during (.meth 27))), (none, .ins 14), (some 82, .ad 0), (some 83, .ad 0), (some 84, .fn (.meth 28)), (some 85, .fn (.during (.meth 28))), (none, .ins 15), (some 86, .ad 0), (some 87, .ad 0), (some 88, .fn (.meth 29)), (some 89, .fn (.during (.meth 29))), (none, .ins 16), (some 90, .eq8), (some 3, .eq8)]
/-- The literal's keys, and what stands at each. -/
def KV : List (List UInt8 × CT) := [([115, 101, 114, 118, 101, 114, 115], (.ahead (.num 0))), ([115, 104, 97, 114, 100, 115], (.ahead (.num 1))), ([99, 108, 105, 101, 110, 116, 115], (.ahead (.num 2))), ([108, 111, 103], (.ahead (.num 3))), ([115, 104, 111, 116], (.ahead (.num 4))), ([115, 101, 101, 100], (.ahead (.meth 17))), ([98, 101, 103, 105, 110], (.ahead (.meth 18))), ([110, 101, 109, 101, 115, 105, 115], (.ahead (.meth 19))), ([107, 101, 121], (.meth 20)), ([111, 114, 100, 101, 114], (.meth 21)), ([108, 101, 100, 103, 101, 114], (.during (.meth 23))), ([99, 111, 112, 121], (.during (.meth 24))), ([119, 97, 105, 116, 105, 110, 103], (.during (.meth 25))), ([115, 116, 111, 114, 121], (.during (.meth 26))), ([106, 117, 100, 103, 101], (.during (.meth 27))), ([97, 117, 100, 105, 116], (.during (.meth 28))), ([111, 118, 101, 114], (.during (.meth 29)))]
/-- Where the keys are laid in. -/
def IX : List Nat := [8, 16, 24, 33, 42, 47, 52, 57, 60, 63, 68, 73, 78, 83, 88, 93, 98]
/-- The region's operations. -/
noncomputable def R1 : Array Oper := match Tryz.f12.body with
  | some (.seq _ (.seq (.region _ ops _) _)) => ops
  | _ => #[]
/-- The map, if it is there. -/
structure MP (w0 w : World) (S : Nat) (listed : Array Bool) (M n : Nat) (D : DataW Value) : Prop where
  cm : CM w0 w M n D
  nb : n + leftOver listed ≤ 101
  ky : ∀ kl, Maps.has D kl = true → ∃ p ∈ KV, kl = .string p.1
  kat : ∀ (k : Nat) (p : List UInt8 × CT) (j : Nat), KV[k]? = some p → IX[k]? = some j → listed.getD j false = true → ∃ v, (∀ z, D.atKey (.string p.1) z = .held v) ∧ IsC w S p.2 v
structure RI (w0 : World) (S : Nat) (a0 : Act) (listed : Array Bool) (a : Act) (w : World) : Prop where
  sz : a.tmps.size = a0.tmps.size
  df : a.defers = a0.defers
  ls : listed.size = 101
  other : ∀ j, (∀ p ∈ TB, p.1 ≠ some j) → a.eval (.tmp j) = a0.eval (.tmp j)
  below : Below w0.heap.size w0 w
  vals : ∀ (i d : Nat) (sp : Sp), TB[i]? = some (some d, sp) → listed.getD i false = true → SpOK w S a (a.eval (.tmp d)) sp
  late : ∀ (j d : Nat), TB[j]? = some (some d, .eq8) → listed.getD j false = true → listed.getD 0 false = true
  lati : ∀ j ∈ IX, listed.getD j false = true → listed.getD 0 false = true
  mp : listed.getD 0 false = true → ∃ M n D, a.eval (.tmp 8) = .map (some M) ∧ MP w0 w S listed M n D
theorem kv_keys : ∀ (k k' : Nat) (p p' : List UInt8 × CT), KV[k]? = some p → KV[k']? = some p' → p.1 = p'.1 → k = k' := by
  have h : (KV.map (·.1)).Nodup := by decide
  intro k k' p p' h1 h2 he
  have e1 : (KV.map (·.1))[k]? = some p.1 := by rw [List.getElem?_map, h1]; rfl
  have e2 : (KV.map (·.1))[k']? = some p.1 := by rw [List.getElem?_map, h2, he]; rfl
  obtain ⟨l1, g1⟩ := List.getElem?_eq_some_iff.1 e1
  obtain ⟨l2, g2⟩ := List.getElem?_eq_some_iff.1 e2
  exact (List.getElem_inj h).1 (g1.trans g2.symm)
theorem ix_inj : ∀ (k k' j : Nat), IX[k]? = some j → IX[k']? = some j → k = k' := by
  have h : IX.Nodup := by decide
  intro k k' j h1 h2
  obtain ⟨l1, g1⟩ := List.getElem?_eq_some_iff.1 h1
  obtain ⟨l2, g2⟩ := List.getElem?_eq_some_iff.1 h2
  exact (List.getElem_inj h).1 (g1.trans g2.symm)
theorem tb_inj : ∀ (i j d : Nat) (sp sq : Sp), TB[i]? = some (some d, sp) → TB[j]? = some (some d, sq) → i = j := by
  have hall : ∀ i, i < 101 → ∀ j, j < 101 → (TB[i]?.bind (·.1)) = (TB[j]?.bind (·.1)) → (TB[i]?.bind (·.1)).isSome = true → i = j := by decide +kernel
  intro i j d sp sq h1 h2
  have l1 := (List.getElem?_eq_some_iff.1 h1).1
  have l2 := (List.getElem?_eq_some_iff.1 h2).1
  exact hall i l1 j l2 (by rw [h1, h2]; rfl) (by rw [h1]; rfl)
theorem ix_none : ∀ j ∈ IX, TB[j]?.map (·.1) = some none := by decide
theorem SpOK.keep {w w' : World} (hk : Kc w w') {S : Nat} {a a' : Act} (he : a'.eval (.tmp 8) = a.eval (.tmp 8)) {v : Value} : ∀ {sp : Sp}, SpOK w S a v sp → SpOK w' S a' v sp
  | .ad _, h => h
  | .fn _, h => IsC.keep hk h
  | .eq8, h => by show v = _; rw [he]; exact h
  | .ins _, _ => trivial
  | .no, _ => trivial
section
variable {P : Program} {ops : Array Oper} {Q : Exit → Act → World → Prop} {K : Act → World → Prop} {i : Nat} {o : Oper} {a : Act} {w w1 : World}
theorem st_val {v : Value} (ho : ops[i]? = some o) (hg : o.guard = none) (hr : (execOp a.eval o).run P w = .ok (.value v) w1) (h : K (a.put o.dst v) w1) : wpOp P ops Q i K a w := by
  unfold wpOp
  rw [ho]
  simp only [Region.wanted, hg]
  exact .inl (by unfold Oper.wp; rw [hr]; exact h)
theorem st_skip (ho : ops[i]? = some o) (hg : o.guard = none) (hr : (execOp a.eval o).run P w = .ok .skip w1) (h : K (a.put o.dst undef) w1) : wpOp P ops Q i K a w := by
  unfold wpOp
  rw [ho]
  simp only [Region.wanted, hg]
  exact .inl (by unfold Oper.wp; rw [hr]; exact h)
theorem st_call {f : FuncId} {vs : Array Value} (ho : ops[i]? = some o) (hg : o.guard = none) (hr : (execOp a.eval o).run P w = .ok (.enter f vs) w) (hc : Calls P f vs w fun e w' => ∃ v, e = .returned v ∧ K (a.put o.dst v) w') : wpOp P ops Q i K a w := by
  unfold wpOp
  rw [ho]
  simp only [Region.wanted, hg]
  refine .inl ?_
  unfold Oper.wp
  rw [hr]
  exact hc.mono fun e w' ⟨v, he, hk⟩ => by subst he; exact hk
end
/-- One more value has come. -/
theorem RI.next {w0 : World} {S : Nat} {a0 : Act} {listed : Array Bool} {a : Act} {w w1 : World} (h : RI w0 S a0 listed a w) (h0 : a0.tmps.size = 133) {i d : Nat} {sp : Sp} (ht : TB[i]? = some (some d, sp)) (hl : listed.getD i true = false) (v : Value) (hi : i ≠ 0) (hd : d < 133)
    (hk : Kc w w1) (hb : Below w.heap.size w w1) (hv : SpOK w1 S a v sp) (h8l : sp = .eq8 → listed.getD 0 false = true) : RI w0 S a0 (listed.setIfInBounds i true) (a.put (some d) v) w1 := by
  have hi101 : i < 101 := (List.getElem?_eq_some_iff.1 ht).1
  have hd8 : d ≠ 8 := by
    intro e
    subst e
    exact hi (tb_inj i 0 8 sp _ ht (by rfl : TB[0]? = some (some 8, .no)))
  have h8 : (a.put (some d) v).eval (.tmp 8) = a.eval (.tmp 8) := Act.eval_put_ne a d 8 v hd8
  have hlo := leftOver_set (by rw [h.ls]; exact hi101) hl
  refine ⟨by rw [Act.size_put]; exact h.sz, by rw [Act.defers_put']; exact h.df, by simpa using h.ls, fun j hj => ?_, h.below.trans (hb.mono h.below.size), fun j e sq hj hlj => ?_, fun j e hj hlj => ?_, fun j hj hlj => ?_, fun h00 => ?_⟩
  · have hne : d ≠ j := fun e => hj _ (List.mem_of_getElem? ht) (by rw [e])
    rw [Act.eval_put_ne a d j v hne]
    exact h.other j hj
  · by_cases hji : j = i
    · subst hji
      rw [ht] at hj
      cases hj
      rw [Act.eval_put_same a d v (by rw [h.sz, h0]; exact hd)]
      exact hv.keep (Kc.refl _) h8
    · have hne : d ≠ e := fun e' => hji (by subst e'; exact tb_inj j i d sq sp hj ht)
      rw [Act.eval_put_ne a d e v hne]
      rw [getD_set_ne false (fun e => hji e.symm)] at hlj
      exact (h.vals j e sq hj hlj).keep hk h8
  · rw [getD_set_ne false hi]
    by_cases hji : j = i
    · subst hji
      rw [ht] at hj
      cases hj
      exact h8l rfl
    · rw [getD_set_ne false (fun e => hji e.symm)] at hlj
      exact h.late j e hj hlj
  · have hji : j ≠ i := by
      intro e
      subst e
      have h1 := ix_none j hj
      rw [ht] at h1
      cases h1
    rw [getD_set_ne false hi]
    rw [getD_set_ne false (fun e => hji e.symm)] at hlj
    exact h.lati j hj hlj
  · rw [getD_set_ne false hi] at h00
    obtain ⟨M, n, D, e8, hm⟩ := h.mp h00
    refine ⟨M, n, D, by rw [h8]; exact e8, ⟨hm.cm.own.kept (row := none) ?_ (by simp), hm.cm.ge, hm.cm.below.trans (hb.mono hm.cm.below.size)⟩, ?_, hm.ky, fun k p j hp hx hlj => ?_⟩
    · exact ⟨hb.os, hb.tape, hb.output, hb.size, fun k hk _ => hb.block k hk⟩
    · have := hm.nb; omega
    · have hji : j ≠ i := by
        intro e
        subst e
        have h1 := ix_none j (List.mem_of_getElem? hx)
        rw [ht] at h1
        cases h1
      rw [getD_set_ne false (fun e => hji e.symm)] at hlj
      obtain ⟨u, hu1, hu2⟩ := hm.kat k p j hp hx hlj
      exact ⟨u, hu1, hu2.keep hk⟩
theorem has_put_cases {D : DataW Value} {k x : Lit} {d : DataW Value} (h : Maps.has (D.put k d) x = true) : x = k ∨ Maps.has D x = true := by
  by_cases hx : x = k
  · exact .inl hx
  · exact .inr (by rwa [has_put_other hx] at h)
theorem strKey (s : List UInt8) : WideAt.IsKeyLit (.string s) := by simp [WideAt.IsKeyLit]
/-- The map has come. -/
theorem RI.map {w0 : World} {S : Nat} {a0 : Act} {listed : Array Bool} {a : Act} {w : World} (h : RI w0 S a0 listed a w) (h0 : a0.tmps.size = 133) (hl : listed.getD 0 true = false) :
    RI w0 S a0 (listed.setIfInBounds 0 true) (a.put (some 8) (.map (some w.heap.size))) (w.alloc (.map #[] 0)) := by
  have hl0 : ¬ listed.getD 0 false = true := by
    have : 0 < listed.size := by rw [h.ls]; omega
    rw [Array.getD_eq_getD_getElem?, Array.getElem?_eq_getElem this] at hl ⊢
    simp at hl ⊢
    exact hl
  have hb : Below w.heap.size w (w.alloc (.map #[] 0)) := (Below.refl _ _).alloc (Nat.le_refl _) _
  have hlo := leftOver_set (by rw [h.ls]; omega) hl
  have hlist : leftOver (listed.setIfInBounds 0 true) ≤ 101 := by
    unfold leftOver
    refine Nat.le_trans List.countP_le_length ?_
    rw [Array.length_toList, Array.size_setIfInBounds, h.ls]
    exact Nat.le_refl _
  refine ⟨by rw [Act.size_put]; exact h.sz, by rw [Act.defers_put']; exact h.df, by simpa using h.ls, fun j hj => ?_, h.below.trans (hb.mono h.below.size), fun j e sq hj hlj => ?_, fun j e hj hlj => ?_, fun j hj hlj => ?_, fun h00 => ?_⟩
  · have hne : 8 ≠ j := fun e => hj (some 8, .no) (List.mem_of_getElem? (show TB[0]? = some (some 8, .no) from rfl)) (by rw [e])
    rw [Act.eval_put_ne a 8 j _ hne]
    exact h.other j hj
  · by_cases hj0 : j = 0
    · subst hj0
      have : TB[0]? = some (some 8, .no) := rfl
      rw [this] at hj
      cases hj
      exact trivial
    · have hne : 8 ≠ e := fun e' => hj0 (by subst e'; exact tb_inj j 0 8 sq .no hj rfl)
      rw [getD_set_ne false (fun e => hj0 e.symm)] at hlj
      rw [Act.eval_put_ne a 8 e _ hne]
      have hv := h.vals j e sq hj hlj
      cases sq with
      | ad off => exact hv
      | fn c => exact IsC.keep (Kc.alloc _ _) hv
      | eq8 => exact absurd (h.late j e hj hlj) hl0
      | ins _ => trivial
      | no => trivial
  · by_cases hj0 : j = 0
    · subst hj0; exact hlj
    · rw [getD_set_ne false (fun e => hj0 e.symm)] at hlj
      exact absurd (h.late j e hj hlj) hl0
  · by_cases hj0 : j = 0
    · subst hj0; exact hlj
    · rw [getD_set_ne false (fun e => hj0 e.symm)] at hlj
      exact absurd (h.lati j hj hlj) hl0
  · refine ⟨w.heap.size, 0, .map [], Act.eval_put_same a 8 _ (by rw [h.sz, h0]; omega), ⟨World.ownsMap_made _ _ _ _, h.below.size, h.below.trans (hb.mono h.below.size)⟩, by omega, fun kl hk => ?_, fun k p j hp hx hlj => ?_⟩
    · rw [has_eq] at hk
      cases hk
    · have hj0 : j ≠ 0 := by
        intro e
        subst e
        have h1 := ix_none 0 (List.mem_of_getElem? hx)
        cases h1
      rw [getD_set_ne false (fun e => hj0 e.symm)] at hlj
      exact absurd (h.lati j (List.mem_of_getElem? hx) hlj) hl0
/-- An entry has come. -/
theorem RI.ins {w0 : World} {S : Nat} {a0 : Act} {listed : Array Bool} {a : Act} {w : World} (h : RI w0 S a0 listed a w) {i k : Nat} {p : List UInt8 × CT} (hx : IX[k]? = some i) (hp : KV[k]? = some p) (hl : listed.getD i true = false) (h00 : listed.getD 0 false = true) {v : Value} (hv : IsC w S p.2 v) (hs : p.1.length ≤ 100) (t : TypeId)
    (ht : Tryz.prog.underlying t = some (.map 9 34)) : ∃ M w1, a.eval (.tmp 8) = .map (some M) ∧ (Instr.mapUpdate t (.map (some M)) (.string ⟨p.1.toArray⟩) v).run Tryz.prog w = .ok () w1 ∧ RI w0 S a0 (listed.setIfInBounds i true) a w1 := by
  obtain ⟨M, n, D, e8, hm⟩ := h.mp h00
  have hi101 : i < 101 := by
    have h1 := ix_none i (List.mem_of_getElem? hx)
    cases hti : TB[i]? with
    | none => rw [hti] at h1; cases h1
    | some q => exact (List.getElem?_eq_some_iff.1 hti).1
  have hi0 : i ≠ 0 := by
    intro e
    subst e
    have h1 := ix_none 0 (List.mem_of_getElem? hx)
    cases h1
  have hlo := leftOver_set (by rw [h.ls]; exact hi101) hl
  obtain ⟨w1, hrun, ho, hg⟩ := hm.cm.own.update (val := v) lawS ht (by have := hm.nb; unfold maxLen; omega) (Go.WideMaps.keyOf_string_mk Tryz.underlying9 (s := ⟨p.1.toArray⟩) (by show p.1.toArray.size ≤ _; rw [List.size_toArray]; unfold maxLen; omega)) (show heldR v = some (.held v, []) from rfl)
  have hkey : (⟨p.1.toArray⟩ : ByteArray).data.toList = p.1 := by simp
  rw [hkey] at ho
  have hk := hm.cm.kc hg
  have hbel : Below w0.heap.size w0 w1 := hm.cm.below.grown hg hm.cm.below.size (fun q hq => by cases hq; exact hm.cm.ge)
  refine ⟨M, w1, e8, hrun, h.sz, h.df, by simpa using h.ls, h.other, hbel, fun j e sq hj hlj => ?_, fun j e hj hlj => ?_, fun j hj hlj => ?_, fun _ => ⟨M, n + 1, _, e8, ⟨ho, hm.cm.ge, hbel⟩, by have := hm.nb; omega, fun x hxk => ?_, fun k' p' j hp' hx' hlj => ?_⟩⟩
  · have hji : j ≠ i := by
      intro e'
      subst e'
      have h1 := ix_none j (List.mem_of_getElem? hx)
      rw [hj] at h1
      cases h1
    rw [getD_set_ne false (fun e => hji e.symm)] at hlj
    exact (h.vals j e sq hj hlj).keep hk rfl
  · rw [getD_set_ne false hi0]
    exact h00
  · rw [getD_set_ne false hi0]
    exact h00
  · rcases has_put_cases hxk with rfl | hxk
    · exact ⟨p, List.mem_of_getElem? hp, rfl⟩
    · exact hm.ky x hxk
  · by_cases hkk : k' = k
    · subst hkk
      rw [hp] at hp'
      cases hp'
      exact ⟨v, fun z => atKey_put_same hm.cm.own.isMap (strKey _) _ z, hv.keep hk⟩
    · have hji : j ≠ i := fun e => hkk (ix_inj k' k i (by rw [← e]; exact hx') hx)
      rw [getD_set_ne false (fun e => hji e.symm)] at hlj
      obtain ⟨u, hu1, hu2⟩ := hm.kat k' p' j hp' hx' hlj
      refine ⟨u, fun z => ?_, hu2.keep hk⟩
      rw [atKey_put_other (fun e => hkk (kv_keys k' k p' p hp' hp (by injection e))) _ z]
      exact hu1 z
end Go.Proofs.YtndpldhglnblfaaGreatDoor
