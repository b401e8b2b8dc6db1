/- How a refusal is told. The commands that are called here: "round" while no cluster is, "servers 9", "begin" with nine servers. A line of blanks, a remark. -/
import Derived.Test.YtndpldhglnblfaaGreatDoorS13
import Derived.Lib.ConvBytes
namespace Go.Proofs.YtndpldhglnblfaaGreatDoor
open Go.RowKit Go.Maps Go.Lib
def e320 : ByteArray := ⟨#[101, 114, 114, 111, 114, 32, 51, 50, 48, 10]⟩
def e2 : ByteArray := ⟨#[101, 114, 114, 111, 114, 32, 50, 10]⟩
theorem below_grow (w : World) (k : Nat) (os : Array Obj) : Below w.heap.size w (Go.Sort.grow (w.drewN k) os) :=
  ⟨rfl, rfl, rfl, by show w.heap.size ≤ (w.heap ++ os).size; rw [Array.size_append]; omega, fun j hj => by show (w.heap ++ os)[j]? = _; rw [Array.getElem?_append_left hj]⟩
theorem refused_320 (w : World) (htab : TabIs Tryz.prog w "internal/strconv.uint64pow10" .u64 pow10Tab) : Calls Tryz.prog 10 #[.int .i64 320] w fun e w' => e = .returned (.string e320) ∧ Below w.heap.size w w' := by
  go_enter Tryz.func10, Tryz.ntmps10
  go_wp2_with (first
    | (go_at_call 13; refine (itoa_320 _ htab).mono ?_; rintro e w' ⟨rfl, k, os, rfl⟩))
  go_ret
  exact ⟨by kernel_rfl, below_grow _ _ _⟩
theorem refused_2 (w : World) : Calls Tryz.prog 10 #[.int .i64 2] w fun e w' => e = .returned (.string e2) ∧ w' = w := by
  go_enter Tryz.func10, Tryz.ntmps10
  go_wp2_with (first
    | (go_at_call 13; refine (itoa_2 _).mono ?_; rintro e w' ⟨rfl, rfl⟩))
  go_ret
  exact ⟨by kernel_rfl, rfl⟩
theorem fine_2 (w : World) : Calls Tryz.prog 43 #[.int .i64 2] w fun e w' => e = .returned (.string e2) ∧ w' = w := by
  go_enter Tryz.func43, Tryz.ntmps43
  go_wp2_with (first
    | (go_at_call 10; refine (refused_2 _).mono ?_; rintro e w' ⟨rfl, rfl⟩))
  go_ret
  exact ⟨rfl, rfl⟩
end Go.Proofs.YtndpldhglnblfaaGreatDoor
namespace Go.Proofs.YtndpldhglnblfaaGreatDoor
open Go.RowKit Go.Maps Go.Lib
theorem during1_calls (w : World) (v : Value) (b S : Nat) (sv : Int) (M : Nat) (hb : CellsAt w b #[.pointer (some ⟨S, 0, none⟩)] 22) (hS : CellsAt w S (shellC sv M) 44) :
    Calls Tryz.prog 53 #[v, .pointer (some ⟨b, 0, none⟩), .pointer (some ⟨b + 1, 0, none⟩)] w fun e w' => e = .returned (.tuple #[.string ⟨#[]⟩, .bool false]) ∧ w' = w := by
  have h1 : w.cell? ⟨b, 0, none⟩ = some (.pointer (some ⟨S, 0, none⟩)) := (cell_at hb 0).1
  have h2 : w.cell? ⟨S, 6, none⟩ = some (.pointer none) := (cell_at hS 6).1
  go_enter Tryz.func53, Tryz.ntmps53
  go_wp2
  go_ret2
  exact ⟨rfl, rfl⟩
theorem within_calls (w : World) (x a b : Int) (h : ¬ (a ≤ x ∧ x ≤ b)) : Calls Tryz.prog 75 #[.int .i64 x, .int .i64 a, .int .i64 b] w fun e w' => e = .returned (.bool false) ∧ w' = w := by
  go_enter Tryz.func75, Tryz.ntmps75
  go_wp2
  all_goals go_ret
  all_goals refine ⟨?_, rfl⟩
  all_goals congr 1
  all_goals simp
  all_goals omega
theorem whole_calls (w : World) : Calls Tryz.prog 40 #[.string ⟨#[57]⟩] w fun e w' => e = .returned (.tuple #[.int .i64 9, .bool true]) ∧ w' = w := by
  go_enter Tryz.func40, Tryz.ntmps40
  go_wp2_with (first
    | (go_at_call 74; refine (trim_9 _).mono ?_; rintro e w' ⟨rfl, rfl⟩))
  go_loop [5, 29] (fun n i => (i = .int .i64 0 ∧ n = .int .i64 0) ∨ (i = .int .i64 1 ∧ n = .int .i64 9)) (fun _ i => 1 - (intOf i).toNat)
  case atStart => exact .inl ⟨rfl, rfl⟩
  case round =>
    rcases hrel with ⟨rfl, rfl⟩ | ⟨rfl, rfl⟩
    · go_wp2
      exact ⟨.inr ⟨rfl, rfl⟩, by decide⟩
    · go_wp2
      go_ret2
      exact ⟨rfl, rfl⟩
theorem number1_calls (w : World) (A c b S : Nat) (o : Nat) (hb : CellsAt w b #[.pointer (some ⟨S, 0, none⟩)] 57) (sv : Int) (M : Nat) (hS : CellsAt w S (shellC sv M) 44) (hw : w.cell? ⟨A, o, none⟩ = some (.string ⟨#[57]⟩)) :
    Calls Tryz.prog 39 #[.slice (some ⟨A, o, none⟩) 1 c, .pointer (some ⟨b, 0, none⟩)] w fun e w' => e = .returned (.tuple #[.string ⟨#[111, 107, 10]⟩, .bool true]) ∧ w' = w.setCell ⟨S, 0, none⟩ (.int .i64 9) := by
  have h1 : w.cell? ⟨b, 0, none⟩ = some (.pointer (some ⟨S, 0, none⟩)) := (cell_at hb 0).1
  have h2 : w.cell? ⟨S, 0, none⟩ = some (.int .i64 sv) := (cell_at hS 0).1
  have h3 : w.frozen? ⟨S, 0, none⟩ = false := (cell_at hS 0).2
  go_enter Tryz.func39, Tryz.ntmps39
  go_wp2_with (first
    | (go_at_call 40; refine (whole_calls _).mono ?_; rintro e w' ⟨rfl, rfl⟩))
  go_ret2
  exact ⟨rfl, rfl⟩
theorem ahead1_num (w : World) (A c b b2 S : Nat) (o : Nat) (sv : Int) (M : Nat) (hb : CellsAt w b #[.pointer (some ⟨S, 0, none⟩)] 22) (hf : CellsAt w (b + 1) #[numF b2] 34) (hb2 : CellsAt w b2 #[.pointer (some ⟨S, 0, none⟩)] 57)
    (hS : CellsAt w S (shellC sv M) 44) (hw : w.cell? ⟨A, o, none⟩ = some (.string ⟨#[57]⟩)) :
    Calls Tryz.prog 38 #[.slice (some ⟨A, o, none⟩) 1 c, .pointer (some ⟨b, 0, none⟩), .pointer (some ⟨b + 1, 0, none⟩)] w fun e w' => e = .returned (.tuple #[.string ⟨#[111, 107, 10]⟩, .bool true]) ∧ w' = w.setCell ⟨S, 0, none⟩ (.int .i64 9) := by
  have h1 : w.cell? ⟨b, 0, none⟩ = some (.pointer (some ⟨S, 0, none⟩)) := (cell_at hb 0).1
  have h2 : w.cell? ⟨b + 1, 0, none⟩ = some (.func (.func 39) #[] #[.pointer (some ⟨b2, 0, none⟩)]) := (cell_at hf 0).1
  have h3 : w.cell? ⟨S, 6, none⟩ = some (.pointer none) := (cell_at hS 6).1
  go_enter Tryz.func38, Tryz.ntmps38
  go_wp2_with (first
    | (go_at_call 39; refine (number1_calls _ A c b2 S o hb2 sv M hS hw).mono ?_; rintro e w' ⟨rfl, rfl⟩))
  go_ret2
  exact ⟨rfl, rfl⟩
theorem newc_calls (w : World) (a b c d s : Int) : Calls Tryz.prog 42 #[.agg #[.int .i64 9, .int .i64 a, .int .i64 b, .int .i64 c, .int .i64 d, .int .u64 s]] w fun e w' => e = .returned (.tuple #[.pointer none, .int .i64 2]) ∧ Below w.heap.size w w' := by
  go_enter Tryz.func42, Tryz.ntmps42
  go_wp2_with (first
    | (go_at_call 75; refine (within_calls _ 9 1 8 (by omega)).mono ?_; rintro e w' ⟨rfl, rfl⟩))
  go_ret2
  exact ⟨rfl, (Below.refl _ _).alloc (Nat.le_refl _) _⟩
theorem begin_calls (w : World) (a : Option Addr) (c S : Nat) (M : Nat) (hS : CellsAt w S (shellC 9 M) 44) :
    Calls Tryz.prog 18 #[.pointer (some ⟨S, 0, none⟩), .slice a 0 c] w fun e w' => e = .returned (.tuple #[.string e2, .bool true]) ∧ Below w.heap.size w w' := by
  have h0 : w.cell? ⟨S, 0, none⟩ = some (.int .i64 9) := (cell_at hS 0).1
  have h1 : w.cell? ⟨S, 1, none⟩ = some (.int .i64 4) := (cell_at hS 1).1
  have h2 : w.cell? ⟨S, 2, none⟩ = some (.int .i64 2) := (cell_at hS 2).1
  have h3 : w.cell? ⟨S, 3, none⟩ = some (.int .i64 64) := (cell_at hS 3).1
  have h4 : w.cell? ⟨S, 4, none⟩ = some (.int .i64 256) := (cell_at hS 4).1
  have h5 : w.cell? ⟨S, 5, none⟩ = some (.int .u64 0) := (cell_at hS 5).1
  go_enter Tryz.func18, Tryz.ntmps18
  go_wp2_with (first
    | (go_at_call 42; refine (newc_calls _ 4 2 64 256 0).mono ?_; rintro e w' ⟨rfl, hbel⟩)
    | (go_at_call 43; refine (fine_2 _).mono ?_; rintro e w'' ⟨rfl, rfl⟩))
  go_ret2
  exact ⟨rfl, hbel⟩
theorem ahead1_begin (w : World) (a : Option Addr) (c b S : Nat) (M : Nat) (hb : CellsAt w b #[.pointer (some ⟨S, 0, none⟩)] 22) (hf : CellsAt w (b + 1) #[.func (.func 18) #[.pointer (some ⟨S, 0, none⟩)] #[]] 34)
    (hS : CellsAt w S (shellC 9 M) 44) :
    Calls Tryz.prog 38 #[.slice a 0 c, .pointer (some ⟨b, 0, none⟩), .pointer (some ⟨b + 1, 0, none⟩)] w fun e w' => e = .returned (.tuple #[.string e2, .bool true]) ∧ Below w.heap.size w w' := by
  have h1 : w.cell? ⟨b, 0, none⟩ = some (.pointer (some ⟨S, 0, none⟩)) := (cell_at hb 0).1
  have h2 : w.cell? ⟨b + 1, 0, none⟩ = some (.func (.func 18) #[.pointer (some ⟨S, 0, none⟩)] #[]) := (cell_at hf 0).1
  have h3 : w.cell? ⟨S, 6, none⟩ = some (.pointer none) := (cell_at hS 6).1
  go_enter Tryz.func38, Tryz.ntmps38
  go_wp2_with (first
    | (go_at_call 18; refine (begin_calls _ a c S M hS).mono ?_; rintro e w' ⟨rfl, hbel⟩))
  go_ret2
  exact ⟨rfl, hbel⟩
end Go.Proofs.YtndpldhglnblfaaGreatDoor
namespace Go.Proofs.YtndpldhglnblfaaGreatDoor
open Go.RowKit Go.Maps Go.Lib
theorem bytes_below (w : World) (e : TypeId) (s : ByteArray) : Below w.heap.size w (bytesWorld w e s) :=
  ⟨rfl, rfl, rfl, by rw [bytesWorld_size]; omega, fun j hj => bytesWorld_at_old w e s j hj⟩
theorem bytes_new (w : World) (e : TypeId) (s : ByteArray) : Bytes (bytesWorld w e s) w.heap.size 0 s := fun i hi => by
  rw [Nat.zero_add, bytesWorld_cell w e s i hi]
  simp [List.getD, hi]
  rfl
theorem Bytes.grown {w w' : World} {b o : Nat} {s : ByteArray} {r : Option Nat} (h : Bytes w b o s) (hg : w.grownBy w' r) (hb : b < w.heap.size) (hr : some b ≠ r) : Bytes w' b o s := fun i hi => (World.cell?_of_block (a := ⟨b, o + i, none⟩) (hg.block b hb hr)).trans (h i hi)
theorem conv_at (w : World) (b o c : Nat) (s : ByteArray) (hb : Bytes w b o s) : (convert 23 9 (.slice (some ⟨b, o, none⟩) s.size c)).run Tryz.prog w = .ok (.string s) w :=
  run_convert_whole w 23 5 9 Tryz.underlying23 Tryz.underlying5 Tryz.underlying9 b o s hb c
set_option maxRecDepth 100000 in
theorem line_blank (w : World) (p : Addr) (b o n c : Nat) (s : ByteArray) (hb : Bytes w b o s) (hn : s.size = n) (hle : n ≤ 65536) (hf : goFieldsP blank s = []) :
    Calls Tryz.prog 4 #[.pointer (some p), .slice (some ⟨b, o, none⟩) n c] w fun e w' => e = .returned (.tuple #[.slice none 0 0, .int .i64 0]) ∧ Below w.heap.size w w' := by
  have hc := conv_at w b o c s hb
  have hfc := fields_calls s w (by omega)
  rw [hf] at hfc
  rw [hn] at hc
  go_enter Tryz.func4, Tryz.ntmps4
  go_wp2_with (first
    | (go_at_call 8; refine hfc.mono ?_; rintro e w' ⟨A, rfl, hA, ho, hbel⟩))
  go_ret2
  exact ⟨rfl, hbel⟩
set_option maxRecDepth 100000 in
theorem line_note (w : World) (p : Addr) (b o n c : Nat) (s f2 : ByteArray) (hb : Bytes w b o s) (hn : s.size = n) (hle : n ≤ 65536) (hf : goFieldsP blank s = [⟨#[35]⟩, f2]) :
    Calls Tryz.prog 4 #[.pointer (some p), .slice (some ⟨b, o, none⟩) n c] w fun e w' => e = .returned (.tuple #[.slice none 0 0, .int .i64 0]) ∧ Below w.heap.size w w' := by
  have hc := conv_at w b o c s hb
  have hfc := fields_calls s w (by omega)
  rw [hf] at hfc
  rw [hn] at hc
  go_enter Tryz.func4, Tryz.ntmps4
  go_wp2_with (first
    | (go_at_call 8; refine hfc.mono ?_; rintro e w' ⟨A, rfl, hA, ho, hbel⟩; have hcA : w'.cell? ⟨A, 0, none⟩ = some (.string ⟨#[35]⟩) := (ho.cellAt 0 (by simp)); clear ho))
  go_ret2
  exact ⟨rfl, hbel⟩
end Go.Proofs.YtndpldhglnblfaaGreatDoor
