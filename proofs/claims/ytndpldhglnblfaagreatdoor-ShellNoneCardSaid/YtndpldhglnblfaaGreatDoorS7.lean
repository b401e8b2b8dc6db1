/- The commands' map beside a second map that is ranged over. -/
import Derived.Test.YtndpldhglnblfaaGreatDoorS6
namespace Go.Proofs.YtndpldhglnblfaaGreatDoor
open Go.RowKit Go.Maps
def R5 (v : Value) : Option (DataW Value × List MemPlace) := match v with
  | .int .i64 _ => some (.held v, [])
  | _ => none
open Classical in
noncomputable def R11 (v : Value) : Option (DataW Value × List MemPlace) := if ∃ p : ByteArray × Int, v = .agg #[.string p.1, .int .i64 p.2] then some (.held v, []) else none
theorem r5_inv {v : Value} {y : DataW Value × List MemPlace} (h : R5 v = some y) : ∃ k : Int, v = .int .i64 k := by
  unfold R5 at h
  split at h
  · exact ⟨_, rfl⟩
  · cases h
theorem r11_inv {v : Value} {y : DataW Value × List MemPlace} (h : R11 v = some y) : ∃ p : ByteArray × Int, v = .agg #[.string p.1, .int .i64 p.2] := by
  unfold R11 at h
  split at h
  · assumption
  · cases h
theorem r11_some (s : ByteArray) (k : Int) : R11 (.agg #[.string s, .int .i64 k]) = some (.held (.agg #[.string s, .int .i64 k]), []) := if_pos ⟨(s, k), rfl⟩
theorem r5_held {v : Value} {y : DataW Value × List MemPlace} (h : R5 v = some y) : y = (.held v, []) := by
  unfold R5 at h
  split at h
  · exact (Option.some.inj h).symm
  · cases h
theorem r11_held {v : Value} {y : DataW Value × List MemPlace} (h : R11 v = some y) : y = (.held v, []) := by
  unfold R11 at h
  split at h
  · exact (Option.some.inj h).symm
  · cases h
/-- A block that holds no cells may turn: the cells stay. -/
theorem kc_grown {w w' : World} {b : Nat} (hg : w.grownBy w' (some b)) (hb : ∀ c t, w.heap[b]? ≠ some (.cells c t (0, 0))) : Kc w w' := fun j c t hj => by
  refine (hg.block j (Array.getElem?_eq_some_iff.1 hj).1 fun e => ?_).trans hj
  have e' : j = b := Option.some.inj e
  subst e'
  exact hb _ _ hj
theorem kc_none {w w' : World} (hg : w.grownBy w' none) : Kc w w' := fun j c t hj => (hg.block j (Array.getElem?_eq_some_iff.1 hj).1 (by simp)).trans hj
theorem owns_nocells {H : Type} {w : World} {P : Program} {k : TypeId} {R : Value → Option (DataW H × List MemPlace)} {b n : Nat} {D : DataW H} (h : w.ownsMap P k R b n D) : ∀ c t, w.heap[b]? ≠ some (.cells c t (0, 0)) := by
  intro c t e
  obtain ⟨es, ck, hm, _⟩ := h
  rw [hm] at e
  cases e
theorem ranges_nocells {H : Type} {w : World} {P : Program} {k : TypeId} {R : Value → Option (DataW H × List MemPlace)} {b r n : Nat} {D : DataW H} {left : Lit → Bool} {cnt : Nat} (h : w.ranges P k R b r n D left cnt) : ∀ c t, w.heap[r]? ≠ some (.cells c t (0, 0)) := by
  intro c t e
  obtain ⟨es, clock, since, seen, c0, _, _, _, _, hr, _⟩ := h
  rw [hr] at e
  cases e
theorem ranges_cnt {H : Type} {w : World} {P : Program} {k : TypeId} {R : Value → Option (DataW H × List MemPlace)} {b r n : Nat} {D : DataW H} {left : Lit → Bool} {cnt : Nat} (h : w.ranges P k R b r n D left cnt) : cnt ≤ n := by
  obtain ⟨es, clock, since, seen, c0, _, _, hs, _, _, _, hc, _⟩ := h
  rw [← hc]
  refine Nat.le_trans ?_ hs
  unfold leftOf
  exact Array.size_filter_le
/-- The commands that a tale of these laws uses. -/
structure Cmd (w0 w : World) (S M n : Nat) (D : DataW Value) : Prop where
  cm : CM w0 w M n D
  sv : ∃ v, (∀ z, D.atKey (.string [115, 101, 114, 118, 101, 114, 115]) z = .held v) ∧ IsC w S (.ahead (.num 0)) v
  bg : ∃ v, (∀ z, D.atKey (.string [98, 101, 103, 105, 110]) z = .held v) ∧ IsC w S (.ahead (.meth 18)) v
  ky : ∀ s : List UInt8, 100 < s.length → Maps.has D (.string s) = false
theorem kv_short : ∀ p ∈ KV, p.1.length ≤ 100 := by decide
theorem Kmds.cmd {w0 w : World} {S M n : Nat} {D : DataW Value} (h : Kmds w0 w S M n D) : Cmd w0 w S M n D :=
  ⟨h.cm, h.kat ([115, 101, 114, 118, 101, 114, 115], .ahead (.num 0)) (List.mem_of_getElem? (show KV[0]? = _ from rfl)), h.kat ([98, 101, 103, 105, 110], .ahead (.meth 18)) (List.mem_of_getElem? (show KV[6]? = _ from rfl)), fun s hs => by
    cases hh : Maps.has D (.string s) with
    | false => rfl
    | true =>
      obtain ⟨p, hp, he⟩ := h.ky _ hh
      injection he with he
      have := kv_short p hp
      rw [← he] at this
      omega⟩
theorem Cmd.keep {w0 w w' : World} {S M n : Nat} {D : DataW Value} (h : Cmd w0 w S M n D) (hc : CM w0 w' M n D) (hk : Kc w w') : Cmd w0 w' S M n D :=
  ⟨hc, h.sv.imp fun _ hv => ⟨hv.1, hv.2.keep hk⟩, h.bg.imp fun _ hv => ⟨hv.1, hv.2.keep hk⟩, h.ky⟩
theorem Cmd.alloc {w0 w : World} {S M n : Nat} {D : DataW Value} (h : Cmd w0 w S M n D) (o : Obj) : Cmd w0 (w.alloc o) S M n D := h.keep (h.cm.alloc o) (Kc.alloc _ _)
theorem Cmd.other {w0 w w' : World} {S M n b : Nat} {D : DataW Value} (h : Cmd w0 w S M n D) (hg : w.grownBy w' (some b)) (hb : ∀ c t, w.heap[b]? ≠ some (.cells c t (0, 0))) (hge : w0.heap.size ≤ b) (hne : M ≠ b) : Cmd w0 w' S M n D :=
  h.keep ⟨h.cm.own.kept hg (by simpa using hne), h.cm.ge, h.cm.below.grown hg h.cm.below.size (fun q hq => by cases hq; exact hge)⟩ (kc_grown hg hb)
theorem Cmd.none {w0 w w' : World} {S M n : Nat} {D : DataW Value} (h : Cmd w0 w S M n D) (hg : w.grownBy w' none) : Cmd w0 w' S M n D :=
  h.keep ⟨h.cm.own.kept hg (by simp), h.cm.ge, h.cm.below.grown hg h.cm.below.size (fun q hq => by cases hq)⟩ (kc_none hg)
/-- A further command under another word. -/
theorem Cmd.put {w0 w w' : World} {S M n : Nat} {D : DataW Value} (h : Cmd w0 w S M n D) {s : List UInt8} {v : Value} (hc : CM w0 w' M (n + 1) (D.put (.string s) (.held v))) (hk : Kc w w') (h1 : s ≠ [115, 101, 114, 118, 101, 114, 115]) (h2 : s ≠ [98, 101, 103, 105, 110]) (h3 : s.length ≤ 100) : Cmd w0 w' S M (n + 1) (D.put (.string s) (.held v)) := by
  obtain ⟨c, ⟨x, hx, ix⟩, ⟨y, hy, iy⟩, ky⟩ := h
  refine ⟨hc, ⟨x, fun z => ?_, ix.keep hk⟩, ⟨y, fun z => ?_, iy.keep hk⟩, fun u hu => ?_⟩
  · rw [atKey_put_other (fun e => h1 (by injection e with e; exact e.symm)) _ z]
    exact hx z
  · rw [atKey_put_other (fun e => h2 (by injection e with e; exact e.symm)) _ z]
    exact hy z
  · rw [has_put_other (fun e => ?_) _]
    · exact ky u hu
    · injection e with e
      rw [e] at hu
      omega
/-- A literal's entry, whatever its elements. -/
theorem wpList_putR {P : Program} {k e : TypeId} (K : Keyed P k) (w : World) {ops : Array Oper} {rest : List Oper} {o : Oper} {a : Act} {Q : Exit → Act → World → Prop} (hN : o.dst = none)
    (hg : o.guard = none) (m x v : Operand) (t : TypeId) (hop : o.op = Op.insert t m x v) (ht : P.underlying t = some (.map k e)) (R : Value → Option (DataW Value × List MemPlace)) (b n : Nat) (D : DataW Value)
    (hm : a.eval m = .map (some b)) (hown : w.ownsMap P k R b n D) (hn : n < maxLen) (key val : Value) (kl : Lit) (hkey : keyOf P k key = some kl) (hx : a.eval x = key) (hv : a.eval v = val) (hR : R val = some (.held val, []))
    (hK : ∀ w', w'.ownsMap P k R b (n + 1) (D.put kl (.held val)) → w.grownBy w' (some b) → wpList P ops Q rest a w') :
    wpList P ops Q (o :: rest) a w := by
  refine wpList_plain hg fun K' hK' => ?_
  obtain ⟨w', hrun, r1, r2⟩ := hown.update K ht hn hkey hR
  have h : wpList P ops Q rest (a.put o.dst undef) w' := by rw [hN]; exact hK w' r1 r2
  unfold Oper.wp
  simp [execOp, hop, hm, hx, hv, hrun, Result.andThen]
  exact hK' _ _ h
end Go.Proofs.YtndpldhglnblfaaGreatDoor
