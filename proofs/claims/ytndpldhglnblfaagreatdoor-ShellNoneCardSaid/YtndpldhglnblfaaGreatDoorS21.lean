/- A text cut at its first line's end. A text run: it is too long; the tale of the law. -/
import Derived.Test.YtndpldhglnblfaaGreatDoorS19
import Derived.Laws.AppendOwnNone
import Derived.Deep.AppendLies
namespace Go.Proofs.YtndpldhglnblfaaGreatDoor
open Go.RowKit Go.Maps Go.Lib
theorem index_text (w : World) (b b2 : Nat) (t : ByteArray) (hb : Bytes w b 0 t) (o n c d : Nat) (hn : o + n = t.size) (hs : w.cell? ⟨b2, 0, none⟩ = some (.int .u8 10)) (k : Int) (hk : indexByte (t.data.toList.drop o) 10 = k) :
    Calls Tryz.prog 14 #[.slice (some ⟨b, o, none⟩) n c, .slice (some ⟨b2, 0, none⟩) 1 d] w fun e w' => e = .returned (.int .i64 k) ∧ w' = w := by
  have hl : t.data.toList.length = t.size := by simp
  have h := Any.bytes_Index_one Tryz.lays185 b o n c b2 0 d ((t.data.toList.drop o).map fun x => (x.toNat : Int)) 10 w (by simp; omega) (fun i hi => by
    have h1 := hb (o + i) (by omega)
    rw [Nat.zero_add] at h1
    rw [h1]
    have h2 : o + i < t.data.size := by have : t.size = t.data.size := rfl; omega
    simp [List.getD, List.getElem?_map, List.getElem?_drop]
    rw [Array.getElem?_eq_getElem h2]
    rfl) hs
  refine h.mono fun e w' ⟨he, hw⟩ => ⟨he.trans ?_, hw⟩
  have e1 : bytesOf ((t.data.toList.drop o).map fun x => (x.toNat : Int)) = t.data.toList.drop o := by
    unfold bytesOf
    rw [List.map_map]
    conv => rhs; rw [← List.map_id (t.data.toList.drop o)]
    apply List.map_congr_left
    intro x _
    simp
  rw [e1, ← hk]
  rfl
theorem cut_hit (w : World) (b b2 : Nat) (t : ByteArray) (hb : Bytes w b 0 t) (o n c d i : Nat) (hn : o + n = t.size) (hs : w.cell? ⟨b2, 0, none⟩ = some (.int .u8 10)) (hk : indexByte (t.data.toList.drop o) 10 = (i : Int)) (hi : i + 1 < n) (hc : n ≤ c) (hbig : c < 1000) :
    Calls Tryz.prog 11 #[.slice (some ⟨b, o, none⟩) n c, .slice (some ⟨b2, 0, none⟩) 1 d] w fun e w' => e = .returned (.tuple #[.slice (some ⟨b, o, none⟩) i c, .slice (some ⟨b, o + (i + 1), none⟩) (n - (i + 1)) (c - (i + 1)), .bool true]) ∧ Below w.heap.size w w' := by
  have hix := index_text w b b2 t hb o n c d hn hs i hk
  go_enter Tryz.func11, Tryz.ntmps11
  go_wp2_with (first
    | (go_at_call 14; refine hix.mono ?_; rintro e w' ⟨rfl, rfl⟩))
  go_quiet (fail)
  go_wp2
  go_ret3
  exact ⟨rfl, below_drewN' (Below.refl _ _) _⟩
theorem cut_miss (w : World) (b b2 : Nat) (t : ByteArray) (hb : Bytes w b 0 t) (o n c d : Nat) (hn : o + n = t.size) (hs : w.cell? ⟨b2, 0, none⟩ = some (.int .u8 10)) (hk : indexByte (t.data.toList.drop o) 10 = -1) :
    Calls Tryz.prog 11 #[.slice (some ⟨b, o, none⟩) n c, .slice (some ⟨b2, 0, none⟩) 1 d] w fun e w' => e = .returned (.tuple #[.slice (some ⟨b, o, none⟩) n c, .slice none 0 0, .bool false]) ∧ Below w.heap.size w w' := by
  have hix := index_text w b b2 t hb o n c d hn hs (-1) hk
  go_enter Tryz.func11, Tryz.ntmps11
  go_wp2_with (first
    | (go_at_call 14; refine hix.mono ?_; rintro e w' ⟨rfl, rfl⟩))
  go_ret3
  exact ⟨rfl, Below.refl _ _⟩
theorem Bytes.window {w : World} {b : Nat} {t : ByteArray} (h : Bytes w b 0 t) (o : Nat) (s : ByteArray) (hs : (t.data.toList.drop o).take s.size = s.data.toList) : Bytes w b o s := fun i hi => by
  have hl : t.data.toList.length = t.size := by simp
  have h1 : s.data.toList[i]? = some s[i] := byte_at s i hi
  rw [← hs, List.getElem?_take_of_lt hi, List.getElem?_drop] at h1
  have h2 : o + i < t.size := by
    have := (List.getElem?_eq_some_iff.1 h1).1
    omega
  have h3 : t.data.toList[o + i]? = some t[o + i] := byte_at t (o + i) h2
  have h4 := h (o + i) h2
  rw [Nat.zero_add] at h4
  rw [h4]
  have h5 : t[o + i] = s[i] := Option.some.inj (h3.symm.trans h1)
  rw [h5]
def tale : ByteArray := ⟨#[35, 32, 97, 10, 10, 32, 32, 10, 10, 115, 101, 114, 118, 101, 114, 115, 32, 57, 10, 98, 101, 103, 105, 110]⟩
theorem tale_size : tale.size = 24 := rfl
theorem fd1 : goFieldsP blank ⟨#[35, 32, 97]⟩ = [⟨#[35]⟩, ⟨#[97]⟩] := by kernel_rfl
theorem fd2 : goFieldsP blank ⟨#[]⟩ = [] := by kernel_rfl
theorem fd3 : goFieldsP blank ⟨#[32, 32]⟩ = [] := by kernel_rfl
theorem fd4 : goFieldsP blank ⟨#[115, 101, 114, 118, 101, 114, 115, 32, 57]⟩ = [⟨#[115, 101, 114, 118, 101, 114, 115]⟩, ⟨#[57]⟩] := by kernel_rfl
theorem fd5 : goFieldsP blank ⟨#[98, 101, 103, 105, 110]⟩ = [⟨#[98, 101, 103, 105, 110]⟩] := by kernel_rfl
theorem fd6 : goFieldsP blank ⟨#[32, 32, 35, 32, 114, 111, 117, 110, 100]⟩ = [⟨#[35]⟩, ⟨#[114, 111, 117, 110, 100]⟩] := by kernel_rfl
theorem fd7 : goFieldsP blank ⟨#[32, 114, 111, 117, 110, 100]⟩ = [⟨#[114, 111, 117, 110, 100]⟩] := by kernel_rfl
theorem wd1 : (tale.data.toList.drop 0).take 3 = [35, 32, 97] := by decide
end Go.Proofs.YtndpldhglnblfaaGreatDoor
namespace Go.Proofs.YtndpldhglnblfaaGreatDoor
open Go.RowKit Go.Maps Go.Lib
theorem run_long (w : World) (A : Option Addr) (c : Nat) : Calls Tryz.prog 5 #[.slice A 65537 c] w fun e w' => e = .returned (.tuple #[.slice none 0 0, .int .i64 3]) ∧ w' = w := by
  go_enter Tryz.func5, Tryz.ntmps5
  go_wp2
  go_ret2
  exact ⟨rfl, rfl⟩
theorem add_at (A j : Nat) : (⟨A, 0, none⟩ : Addr).add j = ⟨A, j + 0, none⟩ := by
  simp [Addr.add]
  intro h
  exact h.symm
def lenOf : Value → Nat
  | .slice _ n _ => n
  | _ => 0
def u8s (s : ByteArray) : List Value := s.data.toList.map fun x => .int .u8 x.toNat
theorem Bytes.news {w : World} {A : Nat} {s : ByteArray} (h : Bytes w A 0 s) (j : Nat) (u : Value) (hu : (u8s s)[j]? = some u) : w.cell? ((⟨A, 0, none⟩ : Addr).add j) = some u := by
  unfold u8s at hu
  rw [List.getElem?_map, Option.map_eq_some_iff] at hu
  obtain ⟨x, hx, rfl⟩ := hu
  have hj : j < s.size := by
    have := (List.getElem?_eq_some_iff.1 hx).1
    simpa using this
  have h1 := h j hj
  rw [byte_at s j hj] at hx
  rw [← Option.some.inj hx, add_at, Nat.add_comm]
  exact h1
/-- What stands while the tale is run. -/
structure TI (w0 wr : World) (b S M n : Nat) (D : DataW Value) (sv : Int) : Prop where
  live : Live wr S M n D sv
  txt : Bytes wr b 0 tale
  lt : b < w0.heap.size
  ge : w0.heap.size ≤ S
  bel : Below w0.heap.size w0 wr
theorem TI.go {w0 wr w' : World} {b S M n : Nat} {D : DataW Value} {sv sv' : Int} (h : TI w0 wr b S M n D sv) (hg : wr.grownBy w' (some S)) (hl : Live w' S M n D sv') : TI w0 w' b S M n D sv' :=
  ⟨hl, Bytes.grown h.txt hg (Nat.lt_of_lt_of_le h.lt h.bel.size) (fun e => by have := Option.some.inj e; have h1 := h.lt; have h2 := h.ge; omega), h.lt, h.ge, h.bel.grown hg h.bel.size (fun q hq => by cases hq; exact h.ge)⟩
theorem TI.below {w0 wr w' : World} {b S M n : Nat} {D : DataW Value} {sv : Int} (h : TI w0 wr b S M n D sv) (hb : Below wr.heap.size wr w') : TI w0 w' b S M n D sv :=
  h.go ⟨hb.os, hb.tape, hb.output, hb.size, fun k hk _ => hb.block k hk⟩ (h.live.below hb)
theorem own_ne {w : World} {base size n S M : Nat} {sv : Int} {v : Value} {xs : List Value} (h : w.ownsRow base 5 size v n xs) (hS : CellsAt w S (shellC sv M) 44) : v.ownBlock = none ∨ v.ownBlock ≠ some S := by
  rcases h.2 with ⟨rfl, _⟩ | ⟨g, cap, cur, rfl, hb, hg, _⟩
  · exact .inl rfl
  · right
    intro e
    have e' : g = S := Option.some.inj e
    subst e'
    have h1 : some (Obj.cells cur 5 (0, 0)) = some (Obj.cells (shellC sv M) 44 (0, 0)) := Eq.trans (Eq.symm hg) hS
    injection h1 with h1
    injection h1 with h1 h2
    exact absurd h2 (by decide)
/-- Where the tale stands: what is told, what is left. -/
def St (w0 wr : World) (b : Nat) (sv : Int) (vo vr : Value) : Prop :=
  (sv = 3 ∧ vo = .slice none 0 0 ∧ vr = .slice (some ⟨b, 0, none⟩) 24 24) ∨ (sv = 3 ∧ vo = .slice none 0 0 ∧ vr = .slice (some ⟨b, 4, none⟩) 20 20) ∨ (sv = 3 ∧ vo = .slice none 0 0 ∧ vr = .slice (some ⟨b, 5, none⟩) 19 19) ∨
  (sv = 3 ∧ vo = .slice none 0 0 ∧ vr = .slice (some ⟨b, 8, none⟩) 16 16) ∨ (sv = 3 ∧ vo = .slice none 0 0 ∧ vr = .slice (some ⟨b, 9, none⟩) 15 15) ∨
  (sv = 9 ∧ wr.ownsRow w0.heap.size 5 1 vo 3 (u8s ok3) ∧ vr = .slice (some ⟨b, 19, none⟩) 5 5)
def okerr : ByteArray := ⟨#[111, 107, 10, 101, 114, 114, 111, 114, 32, 50, 10]⟩
theorem own_below {w w' : World} {base size n : Nat} {e : TypeId} {v : Value} {xs : List Value} (h : w.ownsRow base e size v n xs) (hb : Below w.heap.size w w') : w'.ownsRow base e size v n xs :=
  h.kept (row := none) ⟨hb.os, hb.tape, hb.output, hb.size, fun k hk _ => hb.block k hk⟩ (by cases v <;> first | exact .inl rfl | (rename_i a _ _; cases a <;> first | exact .inl rfl | (right; simp [Value.ownBlock])))
theorem u8s_one {s : ByteArray} : ∀ u ∈ u8s s, u.oneCell' = true := fun u hu => by
  unfold u8s at hu
  rw [List.mem_map] at hu
  obtain ⟨x, _, rfl⟩ := hu
  rfl
theorem own_bytes {w : World} {base g cap : Nat} (h : w.ownsRow base 5 1 (.slice (some ⟨g, 0, none⟩) 11 cap) 11 (u8s ok3 ++ u8s e2)) : Bytes w g 0 okerr := fun i hi => by
  have h1 := h.cellAt i hi
  rw [Nat.zero_add, h1]
  have h2 : u8s ok3 ++ u8s e2 = u8s okerr := rfl
  rw [h2]
  unfold u8s
  rw [List.getElem?_map, byte_at okerr i hi]
  rfl
theorem TI.none {w0 wr w' : World} {b S M n : Nat} {D : DataW Value} {sv : Int} (h : TI w0 wr b S M n D sv) (hg : wr.grownBy w' none) : TI w0 w' b S M n D sv := h.below ⟨hg.os, hg.tape, hg.output, hg.size, fun k hk => hg.block k hk (by simp)⟩
theorem TI.sep {w0 wr : World} {b S M n : Nat} {D : DataW Value} {sv : Int} (h : TI w0 wr b S M n D sv) (o : Obj) : TI w0 (wr.alloc o) b S M n D sv := h.below ((Below.refl _ _).alloc (Nat.le_refl _) _)
theorem cutA (w : World) (b b2 : Nat) (hb : Bytes w b 0 tale) (hs : w.cell? ⟨b2, 0, none⟩ = some (.int .u8 10)) : Calls Tryz.prog 11 #[.slice (some ⟨b, 0, none⟩) 24 24, .slice (some ⟨b2, 0, none⟩) 1 1] w fun e w' => e = .returned (.tuple #[.slice (some ⟨b, 0, none⟩) 3 24, .slice (some ⟨b, 4, none⟩) 20 20, .bool true]) ∧ Below w.heap.size w w' :=
  cut_hit w b b2 tale hb 0 24 24 1 3 rfl hs (by kernel_rfl) (by decide) (by decide) (by decide)
theorem cutB (w : World) (b b2 : Nat) (hb : Bytes w b 0 tale) (hs : w.cell? ⟨b2, 0, none⟩ = some (.int .u8 10)) : Calls Tryz.prog 11 #[.slice (some ⟨b, 4, none⟩) 20 20, .slice (some ⟨b2, 0, none⟩) 1 1] w fun e w' => e = .returned (.tuple #[.slice (some ⟨b, 4, none⟩) 0 20, .slice (some ⟨b, 5, none⟩) 19 19, .bool true]) ∧ Below w.heap.size w w' :=
  cut_hit w b b2 tale hb 4 20 20 1 0 rfl hs (by kernel_rfl) (by decide) (by decide) (by decide)
theorem cutC (w : World) (b b2 : Nat) (hb : Bytes w b 0 tale) (hs : w.cell? ⟨b2, 0, none⟩ = some (.int .u8 10)) : Calls Tryz.prog 11 #[.slice (some ⟨b, 5, none⟩) 19 19, .slice (some ⟨b2, 0, none⟩) 1 1] w fun e w' => e = .returned (.tuple #[.slice (some ⟨b, 5, none⟩) 2 19, .slice (some ⟨b, 8, none⟩) 16 16, .bool true]) ∧ Below w.heap.size w w' :=
  cut_hit w b b2 tale hb 5 19 19 1 2 rfl hs (by kernel_rfl) (by decide) (by decide) (by decide)
theorem cutD (w : World) (b b2 : Nat) (hb : Bytes w b 0 tale) (hs : w.cell? ⟨b2, 0, none⟩ = some (.int .u8 10)) : Calls Tryz.prog 11 #[.slice (some ⟨b, 8, none⟩) 16 16, .slice (some ⟨b2, 0, none⟩) 1 1] w fun e w' => e = .returned (.tuple #[.slice (some ⟨b, 8, none⟩) 0 16, .slice (some ⟨b, 9, none⟩) 15 15, .bool true]) ∧ Below w.heap.size w w' :=
  cut_hit w b b2 tale hb 8 16 16 1 0 rfl hs (by kernel_rfl) (by decide) (by decide) (by decide)
theorem cutE (w : World) (b b2 : Nat) (hb : Bytes w b 0 tale) (hs : w.cell? ⟨b2, 0, none⟩ = some (.int .u8 10)) : Calls Tryz.prog 11 #[.slice (some ⟨b, 9, none⟩) 15 15, .slice (some ⟨b2, 0, none⟩) 1 1] w fun e w' => e = .returned (.tuple #[.slice (some ⟨b, 9, none⟩) 9 15, .slice (some ⟨b, 19, none⟩) 5 5, .bool true]) ∧ Below w.heap.size w w' :=
  cut_hit w b b2 tale hb 9 15 15 1 9 rfl hs (by kernel_rfl) (by decide) (by decide) (by decide)
theorem cutF (w : World) (b b2 : Nat) (hb : Bytes w b 0 tale) (hs : w.cell? ⟨b2, 0, none⟩ = some (.int .u8 10)) : Calls Tryz.prog 11 #[.slice (some ⟨b, 19, none⟩) 5 5, .slice (some ⟨b2, 0, none⟩) 1 1] w fun e w' => e = .returned (.tuple #[.slice (some ⟨b, 19, none⟩) 5 5, .slice none 0 0, .bool false]) ∧ Below w.heap.size w w' :=
  cut_miss w b b2 tale hb 19 5 5 1 rfl hs (by kernel_rfl)
set_option maxRecDepth 100000 in
set_option maxHeartbeats 4000000 in
theorem run_tale (w : World) (b : Nat) (hb : Bytes w b 0 tale) (hlt : b < w.heap.size) : Calls Tryz.prog 5 #[.slice (some ⟨b, 0, none⟩) 24 24] w fun e w' => ∃ A k, e = .returned (.tuple #[.slice (some ⟨A, 0, none⟩) 11 k, .int .i64 0]) ∧ Bytes w' A 0 okerr ∧ w.heap.size ≤ A ∧ A < w'.heap.size ∧ Below w.heap.size w w' := by
  go_enter Tryz.func5, Tryz.ntmps5
  go_wp2_with (first
    | (go_at_call 6; refine (new_live _).mono ?_; rintro e w1 ⟨M, n, D, rfl, hL, hbel⟩))
  obtain ⟨S, hS⟩ : ∃ S, S = w.heap.size := ⟨_, rfl⟩
  rw [← hS] at hL
  have HT := Lib.hid (show TI w w1 b S M n D 3 from ⟨hL, Bytes.grown hb ⟨hbel.os, hbel.tape, hbel.output, hbel.size, fun k hk _ => hbel.block k hk⟩ hlt (r := none) (by simp), hlt, by omega, hbel⟩)
  have HS := Lib.hid hS
  clear hL hb hbel
  simp only [← hS]
  clear hS
  go_loopw [5, 6] (fun vo vr wr => (∃ sv, TI w wr b S M n D sv ∧ St w wr b sv vo vr) ∨ (Below w.heap.size w wr ∧ wr.ownsRow w.heap.size 5 1 vo 11 (u8s ok3 ++ u8s e2) ∧ vr = .slice none 0 0)) (fun vo vr wr => lenOf vr)
  case atStart => exact .inl ⟨3, HT.out, .inl ⟨rfl, rfl, rfl⟩⟩
  case round =>
    obtain ⟨i0, hi0, hz0, hz1, hz2⟩ := info_parts (show (Tryz.prog.info? 5).map (fun i => (i.zero, i.size, i.bytes)) = some (some (.int .u8 0), 1, 1) by kernel_rfl)
    rcases hrel with ⟨sv, hti, hst⟩ | ⟨hbe, hown, rfl⟩
    rotate_left
    · obtain ⟨g, cap, rfl, _, _⟩ := hown.form (by decide)
      clear hi0 hz0 hz1 hz2
      have HE := Lib.hid (show _ ∧ _ from ⟨hbe, hown⟩)
      clear hbe hown
      go_wp2
      go_ret2
      have hlt2 := HE.out.2.lt g rfl
      exact ⟨g, cap, rfl, own_bytes HE.out.2, hlt2.1, hlt2.2, HE.out.1⟩
    have HI := Lib.hid hti
    clear hti HT
    rcases hst with ⟨rfl, rfl, rfl⟩ | ⟨rfl, rfl, rfl⟩ | ⟨rfl, rfl, rfl⟩ | ⟨rfl, rfl, rfl⟩ | ⟨rfl, rfl, rfl⟩ | ⟨rfl, ho, rfl⟩
    · go_wp2_with (first
        | (go_at_call 11; refine (cutA _ b wr.heap.size (HI.out.sep _).txt (by simp)).mono ?_; rintro e w2 ⟨rfl, hb2⟩)
        | (go_at_call 4; refine (line_note _ ⟨S, 0, none⟩ b 0 3 24 ⟨#[35, 32, 97]⟩ ⟨#[97]⟩ (Bytes.window (HI.out.sep _ |>.below hb2).txt 0 ⟨#[35, 32, 97]⟩ (by decide)) rfl (by decide) fd1).mono ?_; rintro e w3 ⟨rfl, hb3⟩))
      exact ⟨.inl ⟨3, ((HI.out.sep _).below hb2).below hb3, .inr (.inl ⟨rfl, rfl, rfl⟩)⟩, by simp [lenOf]⟩
    · go_wp2_with (first
        | (go_at_call 11; refine (cutB _ b wr.heap.size (HI.out.sep _).txt (by simp)).mono ?_; rintro e w2 ⟨rfl, hb2⟩)
        | (go_at_call 4; refine (line_blank _ ⟨S, 0, none⟩ b 4 0 20 ⟨#[]⟩ (Bytes.window (HI.out.sep _ |>.below hb2).txt 4 ⟨#[]⟩ (by decide)) rfl (by decide) fd2).mono ?_; rintro e w3 ⟨rfl, hb3⟩))
      exact ⟨.inl ⟨3, ((HI.out.sep _).below hb2).below hb3, .inr (.inr (.inl ⟨rfl, rfl, rfl⟩))⟩, by simp [lenOf]⟩
    · go_wp2_with (first
        | (go_at_call 11; refine (cutC _ b wr.heap.size (HI.out.sep _).txt (by simp)).mono ?_; rintro e w2 ⟨rfl, hb2⟩)
        | (go_at_call 4; refine (line_blank _ ⟨S, 0, none⟩ b 5 2 19 ⟨#[32, 32]⟩ (Bytes.window (HI.out.sep _ |>.below hb2).txt 5 ⟨#[32, 32]⟩ (by decide)) rfl (by decide) fd3).mono ?_; rintro e w3 ⟨rfl, hb3⟩))
      exact ⟨.inl ⟨3, ((HI.out.sep _).below hb2).below hb3, .inr (.inr (.inr (.inl ⟨rfl, rfl, rfl⟩)))⟩, by simp [lenOf]⟩
    · go_wp2_with (first
        | (go_at_call 11; refine (cutD _ b wr.heap.size (HI.out.sep _).txt (by simp)).mono ?_; rintro e w2 ⟨rfl, hb2⟩)
        | (go_at_call 4; refine (line_blank _ ⟨S, 0, none⟩ b 8 0 16 ⟨#[]⟩ (Bytes.window (HI.out.sep _ |>.below hb2).txt 8 ⟨#[]⟩ (by decide)) rfl (by decide) fd2).mono ?_; rintro e w3 ⟨rfl, hb3⟩))
      exact ⟨.inl ⟨3, ((HI.out.sep _).below hb2).below hb3, .inr (.inr (.inr (.inr (.inl ⟨rfl, rfl, rfl⟩))))⟩, by simp [lenOf]⟩
    · go_wp2_with (first
        | (go_at_call 11; refine (cutE _ b wr.heap.size (HI.out.sep _).txt (by simp)).mono ?_; rintro e w2 ⟨rfl, hb2⟩)
        | (go_at_call 4; refine (line_servers _ S M n D 3 ((HI.out.sep _).below hb2).live b 9 9 15 ⟨#[115, 101, 114, 118, 101, 114, 115, 32, 57]⟩ (Bytes.window (HI.out.sep _ |>.below hb2).txt 9 ⟨#[115, 101, 114, 118, 101, 114, 115, 32, 57]⟩ (by decide)) rfl (by decide) fd4).mono ?_; rintro e w3 ⟨A, k, rfl, hB, hA, hAl, hg, hL⟩)
        | (at_builtin; refine wpList_append_own_at _ rfl (.tmp 40) (.tmp 41) 23 rfl w.heap.size 5 i0 _ 1 1 Tryz.underlying23 hi0 hz0 hz1 hz2 rfl (by decide) (.slice none 0 0) 0 [] rfl (World.ownsRow_nil _ _ _ _) ⟨A, 0, none⟩ 3 k (u8s ok3) rfl rfl (Bytes.news hB) u8s_one (by decide) (by decide) (Nat.le_trans HI.out.bel.size (Nat.le_trans (by simp) (Nat.le_trans hb2.size hg.size))) ?_; intro v4 w4 ho4 hg4 hn4 ha4))
      exact ⟨.inl ⟨9, (((HI.out.sep _).below hb2).go hg hL).none hg4, .inr (.inr (.inr (.inr (.inr ⟨rfl, ho4, rfl⟩))))⟩, by simp [lenOf]⟩
    · obtain ⟨g, cap, rfl, _, _⟩ := ho.form (by decide)
      have HO := Lib.hid ho
      clear ho
      go_wp2_with (first
        | (go_at_call 11; refine (cutF _ b wr.heap.size (HI.out.sep _).txt (by simp)).mono ?_; rintro e w2 ⟨rfl, hb2⟩)
        | (go_at_call 4; refine (line_begin _ S M n D ((HI.out.sep _).below hb2).live b 19 5 5 ⟨#[98, 101, 103, 105, 110]⟩ (Bytes.window (HI.out.sep _ |>.below hb2).txt 19 ⟨#[98, 101, 103, 105, 110]⟩ (by decide)) rfl (by decide) fd5).mono ?_; rintro e w3 ⟨A, k, rfl, hB, hA, hAl, hb3⟩)
        | (at_builtin; refine wpList_append_own_at _ rfl (.tmp 40) (.tmp 41) 23 rfl w.heap.size 5 i0 _ 1 1 Tryz.underlying23 hi0 hz0 hz1 hz2 rfl (by decide) (.slice (some ⟨g, 0, none⟩) 3 cap) 3 (u8s ok3) rfl (own_below (own_below (HO.out.alloc _) hb2) hb3) ⟨A, 0, none⟩ 8 k (u8s e2) rfl rfl (Bytes.news hB) u8s_one (by decide) (by decide) (Nat.le_trans HI.out.bel.size (Nat.le_trans (by simp) (Nat.le_trans hb2.size hb3.size))) ?_; intro v4 w4 ho4 hg4 hn4 ha4))
      exact ⟨.inr ⟨(((HI.out.sep _).below hb2).below hb3).bel.grown hg4 (((HI.out.sep _).below hb2).below hb3).bel.size (fun q hq => by cases hq; exact (HO.out.lt g rfl).1), ho4, rfl⟩, by simp [lenOf]⟩
end Go.Proofs.YtndpldhglnblfaaGreatDoor
