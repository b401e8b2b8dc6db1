/- A disk, weakly: what its sectors hold need not be known. -/
import Derived.Test.YtokflmiijdpchaaGreatProg
import Derived.WalkKit
import Derived.Lib.Hide
import Derived.Deep.MidRow
import Derived.Maps.AppendAt
import Derived.Below
import Derived.Laws.OwnMore
import Derived.BigQuiet
import Derived.Deep.QuietTactic
namespace Go.Proofs.YtokflmiijdpchaaGreat
open Go.RowKit
def IsU8 (v : Value) : Prop := ∃ x : Int, 0 ≤ x ∧ x < 256 ∧ v = .int .u8 x
/-- A sector's cells. -/
def Sec (cs : List Value) : Prop := cs.length = 64 ∧ ∀ v ∈ cs, IsU8 v
theorem IsU8.one {v : Value} (h : IsU8 v) : v.oneCell' = true := by
  obtain ⟨x, _, _, rfl⟩ := h
  rfl
/-- What is pending: where, and a sector. -/
def Pend (N k : Nat) (xs : List Value) : Prop := ∀ i, i < k → ∃ (at_ : Nat) (cs : List Value), at_ < N ∧ Sec cs ∧ (xs.drop (i * 65)).take 65 = .int .i64 at_ :: cs
structure Dsk (w : World) (d N sb : Nat) (rv : Value) (k : Nat) : Prop where
  blk : ∃ lf c0 c1 : Int, w.heap[d]? = some (.cells #[.slice (some ⟨sb, 0, none⟩) N N, rv, .bool false, .int .i64 lf, .int .i64 c0, .int .i64 c1] 88 (0, 0))
  sec : ∃ c, w.heap[sb]? = some (.cells c 90 (0, 0)) ∧ c.size = N * 64 ∧ ∀ v ∈ c, IsU8 v
  row : ∃ base xs, w.ownsRow base 283 65 rv k xs ∧ Pend N k xs
  room : N ≤ 1048576
  kmax : k ≤ 1048576
/-- All blocks but some are as they were. -/
structure But (w w' : World) (F : Nat → Prop) : Prop where
  os : w'.os = w.os
  tape : w'.tape = w.tape
  output : w'.output = w.output
  size : w.heap.size ≤ w'.heap.size
  block : ∀ b, b < w.heap.size → ¬ F b → w'.heap[b]? = w.heap[b]?
/-- A disk's own blocks. -/
def DF (d sb : Nat) (rv : Value) (b : Nat) : Prop := b = d ∨ b = sb ∨ rv.ownBlock = some b
theorem cellD {w : World} {b : Nat} {c : Array Value} {t : TypeId} (h : w.heap[b]? = some (.cells c t (0, 0))) (i : Nat) : w.cell? ⟨b, i, none⟩ = c[i]? ∧ w.frozen? ⟨b, i, none⟩ = false := by
  unfold World.cell? World.frozen?
  constructor
  · simp [h]
  · simp [h]
theorem Dsk.below {w w' : World} {d N sb k : Nat} {rv : Value} (h : Dsk w d N sb rv k) (hb : Below w.heap.size w w') : Dsk w' d N sb rv k := by
  obtain ⟨⟨lf, c0, c1, h1⟩, ⟨c, h2, h3⟩, ⟨base, xs, h4, h5⟩, h6, h7⟩ := h
  exact ⟨⟨lf, c0, c1, (hb.block d (Array.getElem?_eq_some_iff.1 h1).1).trans h1⟩, ⟨c, (hb.block sb (Array.getElem?_eq_some_iff.1 h2).1).trans h2, h3⟩, ⟨base, xs, h4.kept (row := none) ⟨hb.os, hb.tape, hb.output, hb.size, fun k hk _ => hb.block k hk⟩ (Classical.em _), h5⟩, h6, h7⟩
theorem Dsk.c0 {w : World} {d N sb k : Nat} {rv : Value} (h : Dsk w d N sb rv k) : w.cell? ⟨d, 0, none⟩ = some (.slice (some ⟨sb, 0, none⟩) N N) := by
  obtain ⟨⟨lf, c0, c1, h1⟩, -, -, -, -⟩ := h
  exact (cellD h1 0).1
theorem Dsk.c1 {w : World} {d N sb k : Nat} {rv : Value} (h : Dsk w d N sb rv k) : w.cell? ⟨d, 1, none⟩ = some rv := by
  obtain ⟨⟨lf, c0, c1, h1⟩, -, -, -, -⟩ := h
  exact (cellD h1 1).1
/-- A pending row: none, or at a row's head. -/
theorem Dsk.form {w : World} {d N sb k : Nat} {rv : Value} (h : Dsk w d N sb rv k) : (rv = .slice none 0 0 ∧ k = 0) ∨ ∃ g cap, rv = .slice (some ⟨g, 0, none⟩) k cap ∧ k ≤ cap := by
  obtain ⟨-, -, ⟨base, xs, h4, -⟩, -, -⟩ := h
  rcases h4.2 with h0 | ⟨g, cap, cur, hv, hb, hg, hk, _⟩
  · exact .inl h0
  · exact .inr ⟨g, cap, hv, hk⟩
/-- One of what is pending. -/
theorem Dsk.pend {w : World} {d N sb k g cap : Nat} (h : Dsk w d N sb (.slice (some ⟨g, 0, none⟩) k cap) k) (i : Nat) (hi : i < k) : ∃ (at_ : Nat) (cs : List Value), at_ < N ∧ Sec cs ∧ w.rangeAt g (i * 65) (.int .i64 at_ :: cs) := by
  obtain ⟨-, -, ⟨base, xs, h4, h5⟩, -, -⟩ := h
  obtain ⟨at_, cs, ha, hs, he⟩ := h5 i hi
  refine ⟨at_, cs, ha, hs, fun j v hv => ?_⟩
  rw [← he] at hv
  have hj : j < 65 := by
    have := (List.getElem?_eq_some_iff.1 hv).1
    rw [List.length_take] at this
    omega
  rw [List.getElem?_take_of_lt hj, List.getElem?_drop] at hv
  have hlt : i * 65 + j < k * 65 := by
    have : (i + 1) * 65 ≤ k * 65 := Nat.mul_le_mul_right _ hi
    omega
  rw [h4.cellAt _ hlt]
  exact hv
theorem sectors_calls (w : World) (d N sb k : Nat) (rv : Value) (h : Dsk w d N sb rv k) : Calls Tryz.prog 59 #[.pointer (some ⟨d, 0, none⟩)] w fun e w' => e = .returned (.int .i64 N) ∧ w' = w := by
  obtain ⟨⟨lf, c0, c1, h1⟩, -, -, -, -⟩ := h
  have g0 := (cellD h1 0).1
  clear h1
  go_enter Tryz.func59, Tryz.ntmps59
  go_wp2
  go_ret
  exact ⟨rfl, rfl⟩
theorem power_calls (w : World) (d N sb k : Nat) (rv : Value) (h : Dsk w d N sb rv k) : Calls Tryz.prog 183 #[.pointer (some ⟨d, 0, none⟩)] w fun e w' => e = .returned (.int .i64 0) ∧ w' = w := by
  obtain ⟨⟨lf, c0, c1, h1⟩, -, -, -, -⟩ := h
  have g2 := (cellD h1 2).1
  have g3 := (cellD h1 3).1
  clear h1
  go_enter Tryz.func183, Tryz.ntmps183
  go_wp2
  go_ret
  exact ⟨rfl, rfl⟩
end Go.Proofs.YtokflmiijdpchaaGreat
