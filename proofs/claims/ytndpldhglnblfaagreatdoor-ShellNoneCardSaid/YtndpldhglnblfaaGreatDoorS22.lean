/- The law, walked. -/
import Derived.Test.YtndpldhglnblfaaGreatDoorS21
import Derived.Lib.SlBytesConst
import Derived.Lib.SmallJoins
namespace Go.Proofs.YtndpldhglnblfaaGreatDoor
open Go.RowKit Go.Maps Go.Lib
theorem lit_bytes (w : World) (C : Array Value) (t : TypeId) (fr : Nat × Nat) (s : ByteArray) (hC : C.toList = u8s s) : Bytes (w.alloc (.cells C t fr)) w.heap.size 0 s := fun i hi => by
  rw [Nat.zero_add, World.cell?_alloc_mark, ← Array.getElem?_toList, hC]
  unfold u8s
  rw [List.getElem?_map, byte_at s i hi]
  rfl
theorem alloc_size (w : World) (o : Obj) : (w.alloc o).heap.size = w.heap.size + 1 := by simp
theorem zeros_at (n i : Nat) (h : i < (zeros n).size) : (zeros n)[i] = 0 := by
  have h1 := byte_at (zeros n) i h
  have hi : i < n := by rwa [zeros_size] at h
  rw [show (zeros n).data.toList = List.replicate n 0 from by simp [zeros], List.getElem?_replicate, if_pos hi] at h1
  exact (Option.some.inj h1).symm
theorem zero_bytes {w : World} {base g m n : Nat} (h : w.ownsRow base 5 1 (.slice (some ⟨g, 0, none⟩) m m) m (madeCells (Value.int .u8 0).cells (m * 1)).toList) (hn : n ≤ m) : Bytes w g 0 (zeros n) := fun i hi => by
  have hi' : i < n := by rwa [zeros_size] at hi
  have hc : (Value.int .u8 0).cells = #[.int .u8 0] := rfl
  rw [Nat.zero_add, h.cellAt i (by omega), hc, toList_madeCells_one, List.getElem?_replicate, if_pos (by omega), zeros_at]
  rfl
theorem num_calls (w : World) (x : Int) : Calls Tryz.prog 7 #[.int .i64 x] w fun e w' => e = .returned (.int .i64 x) ∧ w' = w := by
  go_enter Tryz.func7, Tryz.ntmps7
  go_wp2
  go_ret
  exact ⟨rfl, rfl⟩
/-- A shell's life behind the law's first steps; bytes that are held. -/
structure LI (w0 w : World) (S M n : Nat) (D : DataW Value) : Prop where
  live : Live w S M n D 3
  tab : TabIs Tryz.prog w "internal/strconv.uint64pow10" .u64 pow10Tab
  bel : Below w0.heap.size w0 w
theorem LI.go {w0 w w' : World} {S M n : Nat} {D : DataW Value} (h : LI w0 w S M n D) (hb : Below w.heap.size w w') : LI w0 w' S M n D :=
  ⟨h.live.below hb, tab_below h.tab hb, h.bel.trans (hb.mono h.bel.size)⟩
theorem LI.lit {w0 w : World} {S M n : Nat} {D : DataW Value} (h : LI w0 w S M n D) (o : Obj) : LI w0 (w.alloc o) S M n D := h.go ((Below.refl _ _).alloc (Nat.le_refl _) _)
def Hd (w : World) (A : Nat) (s : ByteArray) : Prop := Bytes w A 0 s ∧ A < w.heap.size
theorem Hd.go {w w' : World} {A : Nat} {s : ByteArray} (h : Hd w A s) (hb : Below w.heap.size w w') : Hd w' A s :=
  ⟨Bytes.grown h.1 (r := none) ⟨hb.os, hb.tape, hb.output, hb.size, fun k hk _ => hb.block k hk⟩ h.2 (by simp), Nat.lt_of_lt_of_le h.2 hb.size⟩
theorem Hd.lit {w : World} {A : Nat} {s : ByteArray} (h : Hd w A s) (o : Obj) : Hd (w.alloc o) A s := h.go ((Below.refl _ _).alloc (Nat.le_refl _) _)
set_option maxRecDepth 100000 in
set_option maxHeartbeats 4000000 in
theorem none_calls (w : World) (htab : TabIs Tryz.prog w "internal/strconv.uint64pow10" .u64 pow10Tab) : Calls Tryz.prog 3 #[] w fun e w' => e = .returned (.bool true) ∧ Below w.heap.size w w' := by
  have hkc := fun (w : World) (C : Array Value) (n c : Nat) => Lib.run_convert_bytes_const (P := Tryz.prog) w 23 5 C n c Tryz.underlying23 Tryz.underlying5
  have TL1 := trivial
  have TL2 := trivial
  have TL3 := trivial
  have TL4 := trivial
  have TL5 := trivial
  have TR1 := trivial
  have TR2 := trivial
  have HT := Lib.hid htab
  clear htab
  obtain ⟨i0, hi0, hz0, hz1, hz2⟩ := info_parts (show (Tryz.prog.info? 5).map (fun i => (i.zero, i.size, i.bytes)) = some (some (.int .u8 0), 1, 1) by kernel_rfl)
  have HZ := Lib.hid (show _ ∧ _ ∧ _ ∧ _ from ⟨hi0, hz0, hz1, hz2⟩)
  clear hi0 hz0 hz1 hz2
  go_enter Tryz.func3, Tryz.ntmps3
  go_wp2_with (first
    | (at_make; refine wpList_make_full _ rfl _ _ 23 rfl w.heap.size 5 i0 _ 1 Tryz.underlying23 HZ.out.1 HZ.out.2.1 HZ.out.2.2.1 .i64 .i64 65537 65537 65537 rfl rfl rfl rfl (by rw [HZ.out.2.2.2]; decide) (by unfold maxLen; decide) (by simp) ?_; intro w2 hown hg2; rw [alloc_size] at hown; have HO := Lib.hid (show Hd w2 (w.heap.size + 1) (zeros 65536) ∧ _ from ⟨⟨zero_bytes hown (by decide), (hown.lt _ rfl).2⟩, hg2⟩); clear hown hg2)
    | (go_at_call 4; clear TL1; refine (line_nil _ _).mono ?_; rintro e w' ⟨rfl, rfl⟩)
    | (go_at_call 4; clear TL2; refine (line_long _ _ _ _).mono ?_; rintro e w' ⟨rfl, rfl⟩)
    | (go_at_call 4; clear TL3; refine (line_out _ _ _ _ _ _ H3.out.1.live H3.out.1.tab _ 0 65536 65537 (zeros 65536) (zeros 65536) H3.out.2.1 (zeros_size _) (by decide) (zeros_fields _ (by decide)) (zeros_size _) (fun h => zeros_at _ _ h)).mono ?_; rintro e w4 ⟨A1, k1, rfl, hB1, hA1, hl1, hb4⟩; have H4 := Lib.hid (show LI w w4 _ _ _ _ ∧ Hd w4 A1 e320 from ⟨H3.out.1.go hb4, hB1, hl1⟩); clear H3 hB1 hA1 hl1 hb4)
    | (go_at_call 4; clear TL4; refine (line_note _ _ _ 0 9 9 ⟨#[32, 32, 35, 32, 114, 111, 117, 110, 100]⟩ ⟨#[114, 111, 117, 110, 100]⟩ (lit_bytes w4 _ _ _ ⟨#[32, 32, 35, 32, 114, 111, 117, 110, 100]⟩ rfl) rfl (by decide) fd6).mono ?_; rintro e w6 ⟨rfl, hb6⟩; have H6 := Lib.hid (show LI w w6 _ _ _ _ ∧ Hd w6 A1 e320 from ⟨(H4.out.1.lit _).go hb6, (H4.out.2.lit _).go hb6⟩); clear H4 hb6)
    | (go_at_call 4; clear TL5; refine (line_round _ _ _ _ _ _ (H6.out.1.lit _).live (H6.out.1.lit _).tab _ 0 6 6 ⟨#[32, 114, 111, 117, 110, 100]⟩ (lit_bytes w6 _ _ _ ⟨#[32, 114, 111, 117, 110, 100]⟩ rfl) rfl (by decide) fd7).mono ?_; rintro e w8 ⟨A2, k2, rfl, hB2, hA2, hl2, hb8⟩; have H8 := Lib.hid (show LI w w8 _ _ _ _ ∧ Hd w8 A1 e320 ∧ Hd w8 A2 e320 from ⟨(H6.out.1.lit _).go hb8, (H6.out.2.lit _).go hb8, hB2, hl2⟩); clear H6 hB2 hA2 hl2 hb8)
    | (go_at_call 5; clear TR1; refine (run_long _ _ _).mono ?_; rintro e w' ⟨rfl, rfl⟩)
    | (go_at_call 5; clear TR2; refine (run_tale _ _ (lit_bytes w8 _ _ _ tale rfl) (by simp)).mono ?_; rintro e w10 ⟨A3, k3, rfl, hB3, hA3, hl3, hb10⟩; have H10 := Lib.hid (show Below w.heap.size w w10 from ((H8.out.1.lit _).go hb10).bel); have hc1 : (convert 23 9 (.slice (some ⟨A1, 0, none⟩) 10 k1)).run Tryz.prog w10 = .ok (.string ⟨#[101, 114, 114, 111, 114, 32, 51, 50, 48, 10]⟩) w10 := conv_at w10 A1 0 k1 e320 ((H8.out.2.1.lit _).go hb10).1; have hc2 : (convert 23 9 (.slice (some ⟨A2, 0, none⟩) 10 k2)).run Tryz.prog w10 = .ok (.string ⟨#[101, 114, 114, 111, 114, 32, 51, 50, 48, 10]⟩) w10 := conv_at w10 A2 0 k2 e320 ((H8.out.2.2.lit _).go hb10).1; have hc3 : (convert 23 9 (.slice (some ⟨A3, 0, none⟩) 11 k3)).run Tryz.prog w10 = .ok (.string ⟨#[111, 107, 10, 101, 114, 114, 111, 114, 32, 50, 10]⟩) w10 := conv_at w10 A3 0 k3 okerr hB3; clear H8 hB3 hA3 hl3 hb10)
    | (go_at_call 6; refine (new_live _).mono ?_; rintro e w3 ⟨M, n, D, rfl, hL3, hb3⟩; have hb13 := (((Below.refl w.heap.size w).alloc (Nat.le_refl _) _).grown HO.out.2 (by simp) (fun q hq => by cases hq)).trans (hb3.mono (Nat.le_trans (by simp) HO.out.2.size)); have H3 := Lib.hid (show LI w w3 _ _ _ _ ∧ Bytes w3 (w.heap.size + 1) 0 (zeros 65536) ∧ True from ⟨⟨hL3, tab_below HT.out hb13, hb13⟩, (HO.out.1.go hb3).1, trivial⟩); clear hL3 hb3 hb13)
    | (go_at_call 7; refine (num_calls _ _).mono ?_; rintro e w' ⟨rfl, rfl⟩))
  go_ret
  exact ⟨rfl, H10.out⟩
end Go.Proofs.YtndpldhglnblfaaGreatDoor
