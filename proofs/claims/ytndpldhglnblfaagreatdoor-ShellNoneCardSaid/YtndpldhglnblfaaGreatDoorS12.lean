/- The shell, made. A line that is refused before it is read. A word's end: a blank. A shell that stands. -/
import Derived.Test.YtndpldhglnblfaaGreatDoorS8
namespace Go.Proofs.YtndpldhglnblfaaGreatDoor
open Go.RowKit Go.Maps
theorem cell_at {w : World} {b : Nat} {c : Array Value} {t : TypeId} (h : w.heap[b]? = some (.cells c t (0, 0))) (i : Nat) : w.cell? ⟨b, i, none⟩ = c[i]? ∧ w.frozen? ⟨b, i, none⟩ = false := by
  unfold World.cell? World.frozen?
  constructor
  · simp [h]
  · simp [h]
set_option maxRecDepth 100000 in
set_option maxHeartbeats 4000000 in
theorem new_calls (w : World) : Calls Tryz.prog 6 #[] w fun e w' => ∃ M n D w1, e = .returned (.pointer (some ⟨w.heap.size, 0, none⟩)) ∧ w' = w1.setCell ⟨w.heap.size, 7, none⟩ (.map (some M)) ∧ Cmd (w.alloc (.cells #[.int .i64 3, .int .i64 4, .int .i64 2, .int .i64 64, .int .i64 256, .int .u64 0, .pointer none, .map none] 44)) w1 w.heap.size M n D ∧ n ≤ 117 ∧ ∃ v, (∀ z, D.atKey (.string [114, 111, 117, 110, 100]) z = .held v) ∧ RD w1 w.heap.size v := by
  go_enter Tryz.func6, Tryz.ntmps6
  go_wp2_with (first
    | (go_at_call 12; refine (all_calls _ _).mono ?_; rintro e w' ⟨M, n, D, rfl, hc, hn, hr⟩; have g := cell_at ((hc.cm.below.block w.heap.size (by simp)).trans (heap_alloc_new w _)) 7; have g1 := g.1; have g2 := g.2; clear g; have H := Lib.hid (show _ ∧ _ ∧ _ from ⟨hc, hn, hr⟩); clear hc hn hr))
  go_ret
  exact ⟨M, n, D, w', rfl, rfl, H.out.1, H.out.2.1, H.out.2.2⟩
end Go.Proofs.YtndpldhglnblfaaGreatDoor
namespace Go.Proofs.YtndpldhglnblfaaGreatDoor
open Go.RowKit Go.Maps
theorem line_nil (w : World) (v : Value) : Calls Tryz.prog 4 #[.pointer none, v] w fun e w' => e = .returned (.tuple #[.slice none 0 0, .int .i64 1]) ∧ w' = w := by
  go_enter Tryz.func4, Tryz.ntmps4
  go_wp2
  go_ret2
  exact ⟨rfl, rfl⟩
theorem line_long (w : World) (p : Addr) (A : Option Addr) (c : Nat) : Calls Tryz.prog 4 #[.pointer (some p), .slice A 65537 c] w fun e w' => e = .returned (.tuple #[.slice none 0 0, .int .i64 3]) ∧ w' = w := by
  go_enter Tryz.func4, Tryz.ntmps4
  go_wp2
  go_ret2
  exact ⟨rfl, rfl⟩
end Go.Proofs.YtndpldhglnblfaaGreatDoor
namespace Go.Proofs.YtndpldhglnblfaaGreatDoor
open Go.RowKit Go.Maps
theorem blank_calls (w : World) (r : Int) : Calls Tryz.prog 9 #[.int .i32 r] w fun e w' => e = .returned (.bool (r == 32)) ∧ w' = w := by
  go_enter Tryz.func9, Tryz.ntmps9
  go_wp2
  go_ret
  exact ⟨rfl, rfl⟩
end Go.Proofs.YtndpldhglnblfaaGreatDoor
namespace Go.Proofs.YtndpldhglnblfaaGreatDoor
open Go.RowKit Go.Maps
/-- Blocks of fewer than eight cells stay. -/
def Ks (w w' : World) : Prop := ∀ (b : Nat) (c : Array Value) (t : TypeId), c.size < 8 → CellsAt w b c t → CellsAt w' b c t
theorem Ks.of {w w' : World} (h : Kc w w') : Ks w w' := fun b c t _ hb => h b c t hb
theorem Ks.grown {w w' : World} {S : Nat} {c0 : Array Value} {t0 : TypeId} (hS : CellsAt w S c0 t0) (h8 : c0.size = 8) (hg : w.grownBy w' (some S)) : Ks w w' := fun b c t hc hb => by
  refine (hg.block b (Array.getElem?_eq_some_iff.1 hb).1 fun e => ?_).trans hb
  have e' : b = S := Option.some.inj e
  subst e'
  have h1 : some (Obj.cells c t (0, 0)) = some (Obj.cells c0 t0 (0, 0)) := Eq.trans (Eq.symm hb) hS
  injection h1 with h1
  injection h1 with h1
  subst h1
  omega
theorem IsC.keeps {w w' : World} (hk : Ks w w') {S : Nat} : ∀ {c : CT} {v : Value}, IsC w S c v → IsC w' S c v
  | .num _, _, ⟨b, h1, h2⟩ => ⟨b, h1, hk _ _ _ (by simp) h2⟩
  | .meth _, _, h => h
  | .ahead _, _, ⟨b, f, x, y, h1, h2, h3, h4⟩ => ⟨b, f, x, y, h1, hk _ _ _ (by simp) h2, hk _ _ _ (by simp) h3, IsC.keeps hk h4⟩
  | .during _, _, ⟨b, h1, h2⟩ => ⟨b, h1, hk _ _ _ (by simp) h2⟩
theorem RD.keeps {w w' : World} (hk : Ks w w') {S : Nat} {v : Value} : RD w S v → RD w' S v := fun ⟨b, b2, h, h1, h2, h3, h4⟩ => ⟨b, b2, h, hk _ _ _ (by simp) h1, hk _ _ _ (by simp) h2, hk _ _ _ (by simp) h3, hk _ _ _ (by simp) h4⟩
theorem set_grown (w : World) (a : Addr) (v : Value) : w.grownBy (w.setCell a v) (some a.block) :=
  ⟨rfl, rfl, rfl, by simp [World.setCell], fun k _ hne => by
    have : a.block ≠ k := fun e => hne (by rw [e])
    simp [World.setCell, Array.getElem?_modify, this]⟩
theorem set_at {w : World} {S i : Nat} {c : Array Value} {t : TypeId} (h : CellsAt w S c t) (v : Value) : CellsAt (w.setCell ⟨S, i, none⟩ v) S (c.setIfInBounds i v) t := by
  unfold CellsAt at h ⊢
  simp [World.setCell, Array.getElem?_modify, h]
/-- What a shell's block holds. -/
def shellC (sv : Int) (M : Nat) : Array Value := #[.int .i64 sv, .int .i64 4, .int .i64 2, .int .i64 64, .int .i64 256, .int .u64 0, .pointer none, .map (some M)]
structure Live (w : World) (S M n : Nat) (D : DataW Value) (sv : Int) : Prop where
  blk : CellsAt w S (shellC sv M) 44
  own : w.ownsMap Tryz.prog 9 heldR M n D
  ne : M ≠ S
  nn : n ≤ 117
  ser : ∃ v, (∀ z, D.atKey (.string [115, 101, 114, 118, 101, 114, 115]) z = .held v) ∧ IsC w S (.ahead (.num 0)) v
  beg : ∃ v, (∀ z, D.atKey (.string [98, 101, 103, 105, 110]) z = .held v) ∧ IsC w S (.ahead (.meth 18)) v
  rnd : ∃ v, (∀ z, D.atKey (.string [114, 111, 117, 110, 100]) z = .held v) ∧ RD w S v
  ky : ∀ s : List UInt8, 100 < s.length → Maps.has D (.string s) = false
section
variable {w w' : World} {S M n : Nat} {D : DataW Value} {sv : Int}
theorem Live.grown (h : Live w S M n D sv) (hg : w.grownBy w' none) : Live w' S M n D sv :=
  ⟨kc_none hg _ _ _ h.blk, h.own.kept hg (by simp), h.ne, h.nn, h.ser.imp fun _ hv => ⟨hv.1, hv.2.keep (kc_none hg)⟩, h.beg.imp fun _ hv => ⟨hv.1, hv.2.keep (kc_none hg)⟩, h.rnd.imp fun _ hv => ⟨hv.1, hv.2.keep (kc_none hg)⟩, h.ky⟩
theorem Live.below (h : Live w S M n D sv) (hb : Below w.heap.size w w') : Live w' S M n D sv := h.grown ⟨hb.os, hb.tape, hb.output, hb.size, fun k hk _ => hb.block k hk⟩
theorem Live.set0 (h : Live w S M n D sv) (k : Int) : Live (w.setCell ⟨S, 0, none⟩ (.int .i64 k)) S M n D k := by
  have hg := set_grown w ⟨S, 0, none⟩ (.int .i64 k)
  have hk := Ks.grown h.blk rfl hg
  exact ⟨set_at h.blk _, h.own.kept hg (fun e => h.ne (Option.some.inj e)), h.ne, h.nn, h.ser.imp fun _ hv => ⟨hv.1, hv.2.keeps hk⟩, h.beg.imp fun _ hv => ⟨hv.1, hv.2.keeps hk⟩, h.rnd.imp fun _ hv => ⟨hv.1, hv.2.keeps hk⟩, h.ky⟩
theorem Live.lt (h : Live w S M n D sv) : S < w.heap.size := (Array.getElem?_eq_some_iff.1 h.blk).1
theorem Live.cell (h : Live w S M n D sv) (i : Nat) : w.cell? ⟨S, i, none⟩ = (shellC sv M)[i]? ∧ w.frozen? ⟨S, i, none⟩ = false := cell_at h.blk i
end
theorem new_live (w : World) : Calls Tryz.prog 6 #[] w fun e w' => ∃ M n D, e = .returned (.pointer (some ⟨w.heap.size, 0, none⟩)) ∧ Live w' w.heap.size M n D 3 ∧ Below w.heap.size w w' :=
  (new_calls w).mono fun e w' ⟨M, n, D, w1, he, hw, hc, hn, hr⟩ => by
    subst hw
    have hS : CellsAt w1 w.heap.size #[.int .i64 3, .int .i64 4, .int .i64 2, .int .i64 64, .int .i64 256, .int .u64 0, .pointer none, .map none] 44 := (hc.cm.below.block w.heap.size (by simp)).trans (heap_alloc_new w _)
    have hM : M ≠ w.heap.size := by
      have := hc.cm.ge
      simp at this
      omega
    have hg := set_grown w1 ⟨w.heap.size, 7, none⟩ (.map (some M))
    have hk := Ks.grown hS rfl hg
    refine ⟨M, n, D, he, ⟨set_at hS _, hc.cm.own.kept hg (fun e => hM (Option.some.inj e)), hM, hn, hc.sv.imp fun _ hv => ⟨hv.1, hv.2.keeps hk⟩, hc.bg.imp fun _ hv => ⟨hv.1, hv.2.keeps hk⟩, hr.imp fun _ hv => ⟨hv.1, hv.2.keeps hk⟩, hc.ky⟩, ?_⟩
    have hb : Below w.heap.size w w1 := ((Below.refl _ w).alloc (Nat.le_refl _) _).trans (hc.cm.below.mono (by simp))
    exact hb.grown hg hb.size (fun q hq => by cases hq; exact Nat.le_refl _)
end Go.Proofs.YtndpldhglnblfaaGreatDoor
