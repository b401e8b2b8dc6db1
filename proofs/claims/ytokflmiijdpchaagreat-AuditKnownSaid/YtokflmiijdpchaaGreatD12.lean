/- A disk beside blocks that stay. -/
import Derived.Test.YtokflmiijdpchaaGreatD11
namespace Go.Proofs.YtokflmiijdpchaaGreat
open Go.RowKit
/-- The blocks U stay. -/
structure Kp (U : Nat → Prop) (w w' : World) : Prop where
  os : w'.os = w.os
  tape : w'.tape = w.tape
  output : w'.output = w.output
  size : w.heap.size ≤ w'.heap.size
  block : ∀ b, U b → w'.heap[b]? = w.heap[b]?
theorem Kp.refl (U : Nat → Prop) (w : World) : Kp U w w := ⟨rfl, rfl, rfl, Nat.le_refl _, fun _ _ => rfl⟩
theorem Kp.trans {U : Nat → Prop} {w1 w2 w3 : World} (h : Kp U w1 w2) (k : Kp U w2 w3) : Kp U w1 w3 := ⟨k.os.trans h.os, k.tape.trans h.tape, k.output.trans h.output, Nat.le_trans h.size k.size, fun b hb => (k.block b hb).trans (h.block b hb)⟩
theorem Kp.mono {U V : Nat → Prop} {w w' : World} (h : Kp U w w') (hv : ∀ b, V b → U b) : Kp V w w' := ⟨h.os, h.tape, h.output, h.size, fun b hb => h.block b (hv b hb)⟩
theorem Kp.of_below {U : Nat → Prop} {w w' : World} (h : Below w.heap.size w w') (hu : ∀ b, U b → b < w.heap.size) : Kp U w w' := ⟨h.os, h.tape, h.output, h.size, fun b hb => h.block b (hu b hb)⟩
theorem Kp.of_but {U F : Nat → Prop} {w w' : World} (h : But w w' F) (hu : ∀ b, U b → b < w.heap.size ∧ ¬ F b) : Kp U w w' := ⟨h.os, h.tape, h.output, h.size, fun b hb => h.block b (hu b hb).1 (hu b hb).2⟩
theorem Kp.of_grown {U : Nat → Prop} {w w' : World} {g : Nat} (h : w.grownBy w' (some g)) (hu : ∀ b, U b → b < w.heap.size ∧ b ≠ g) : Kp U w w' := ⟨h.os, h.tape, h.output, h.size, fun b hb => h.block b (hu b hb).1 fun e => (hu b hb).2 (Option.some.inj e)⟩
theorem Kp.to_below {B : Nat} {w w' : World} (h : Kp (fun b => b < B) w w') : Below B w w' := ⟨h.os, h.tape, h.output, h.size, fun b hb => h.block b hb⟩
/-- A disk; its own blocks are none of U. -/
def DU (w : World) (d N sb k : Nat) (U : Nat → Prop) : Prop := ∃ rv, Dsk w d N sb rv k ∧ ∀ b, U b → b < w.heap.size ∧ ¬ DF d sb rv b
theorem Dsk.own_lt {w : World} {d N sb k : Nat} {rv : Value} (h : Dsk w d N sb rv k) {b : Nat} (hb : DF d sb rv b) : b < w.heap.size := by
  rcases hb with rfl | rfl | hb
  · obtain ⟨⟨lf, c0, c1, h1⟩, -, -, -, -⟩ := h
    exact (Array.getElem?_eq_some_iff.1 h1).1
  · exact h.lt
  · obtain ⟨-, -, ⟨base, xs, h4, -⟩, -, -⟩ := h
    rcases h4.2 with ⟨rfl, -⟩ | ⟨g, cap, cur, rfl, -, hbl, -⟩
    · simp [Value.ownBlock] at hb
    · simp [Value.ownBlock] at hb
      subst hb
      exact (Array.getElem?_eq_some_iff.1 hbl).1
theorem DU.of {w : World} {d N sb k : Nat} {rv : Value} (h : Dsk w d N sb rv k) : DU w d N sb k (fun b => b < w.heap.size ∧ ¬ DF d sb rv b) := ⟨rv, h, fun _ hb => hb⟩
theorem DU.mono {w : World} {d N sb k : Nat} {U V : Nat → Prop} (h : DU w d N sb k U) (hv : ∀ b, V b → U b) : DU w d N sb k V := let ⟨rv, h1, h2⟩ := h; ⟨rv, h1, fun b hb => h2 b (hv b hb)⟩
theorem DU.lt {w : World} {d N sb k : Nat} {U : Nat → Prop} (h : DU w d N sb k U) {b : Nat} (hb : U b) : b < w.heap.size := let ⟨_, _, h2⟩ := h; (h2 b hb).1
theorem DU.room {w : World} {d N sb k : Nat} {U : Nat → Prop} (h : DU w d N sb k U) : N ≤ 1048576 := let ⟨_, h1, _⟩ := h; h1.room
theorem DU.below {w w' : World} {d N sb k : Nat} {U : Nat → Prop} (h : DU w d N sb k U) (hb : Below w.heap.size w w') : DU w' d N sb k U := let ⟨rv, h1, h2⟩ := h; ⟨rv, h1.below hb, fun b hu => ⟨Nat.lt_of_lt_of_le (h2 b hu).1 hb.size, (h2 b hu).2⟩⟩
/-- What is new since stays, too. -/
theorem DU.more {w w' : World} {d N sb k : Nat} {U : Nat → Prop} (h : DU w d N sb k U) (hb : Below w.heap.size w w') : DU w' d N sb k (fun b => U b ∨ (w.heap.size ≤ b ∧ b < w'.heap.size)) := by
  obtain ⟨rv, h1, h2⟩ := h
  refine ⟨rv, h1.below hb, fun b hu => ?_⟩
  rcases hu with hu | hu
  · exact ⟨Nat.lt_of_lt_of_le (h2 b hu).1 hb.size, (h2 b hu).2⟩
  · exact ⟨hu.2, fun hf => absurd (h1.own_lt hf) (by omega)⟩
theorem usync_calls (w : World) (d N sb k : Nat) (U : Nat → Prop) (h : DU w d N sb k U) : Calls Tryz.prog 121 #[.pointer (some ⟨d, 0, none⟩)] w fun e w' => e = .returned (.int .i64 0) ∧ DU w' d N sb 0 U ∧ Kp U w w' := by
  obtain ⟨rv, h1, h2⟩ := h
  refine (sync_calls w d N sb k rv h1).mono ?_
  rintro e w' ⟨he, hd, hb⟩
  refine ⟨he, ⟨_, hd, fun b hu => ⟨Nat.lt_of_lt_of_le (h2 b hu).1 hb.size, fun hf => ?_⟩⟩, Kp.of_but hb h2⟩
  rcases hf with hf | hf | hf
  · exact (h2 b hu).2 (.inl hf)
  · exact (h2 b hu).2 (.inr (.inl hf))
  · simp [Value.ownBlock] at hf
theorem usread_calls (w : World) (s d : Nat) (f z g : Int) (dead : Bool) (h : Sht w s d f z g dead) (N sb k : Nat) (U : Nat → Prop) (hd : DU w d N sb k U) (i : Nat) (hi : i < N) :
    Calls Tryz.prog 104 #[.pointer (some ⟨s, 0, none⟩), .int .i64 i] w fun e w' => ∃ zs, e = .returned (.agg zs.toArray) ∧ Sec zs ∧ Below w.heap.size w w' :=
  let ⟨rv, h1, _⟩ := hd
  sread_any w s d f z g dead h N sb k rv h1 i hi
theorem ussync_calls (w : World) (s d : Nat) (f z g : Int) (dead : Bool) (h : Sht w s d f z g dead) (N sb k : Nat) (U : Nat → Prop) (hd : DU w d N sb k U) :
    Calls Tryz.prog 135 #[.pointer (some ⟨s, 0, none⟩)] w fun e w' => e = .returned (.tuple #[]) ∧ DU w' d N sb 0 U ∧ Kp U w w' := by
  have g0 : w.cell? ⟨s, 0, none⟩ = some (.pointer (some ⟨d, 0, none⟩)) := (cellD h 0).1
  have HD := Lib.hid hd
  clear h hd
  go_enter Tryz.func135, Tryz.ntmps135
  go_wp2_with (first
    | (go_at_call 121; refine (usync_calls _ d N sb k U HD.out).mono ?_; rintro e w2 ⟨rfl, hd2, hb2⟩; have H2 := Lib.hid (show _ ∧ _ from ⟨hd2, hb2⟩); clear hd2 hb2))
  first | go_end0 | refine bodyPost_ret (results_none rfl _ _ _) rfl ?_
  exact ⟨rfl, H2.out.1, H2.out.2⟩
end Go.Proofs.YtokflmiijdpchaaGreat
