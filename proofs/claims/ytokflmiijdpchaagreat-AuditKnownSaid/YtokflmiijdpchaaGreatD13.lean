/- A disk's write, snapshots' write, beside blocks that stay. A log reads and writes a sector. -/
import Derived.Test.YtokflmiijdpchaaGreatD2
namespace Go.Proofs.YtokflmiijdpchaaGreat
open Go.RowKit
theorem uwrite_calls (w : World) (d N sb k : Nat) (U : Nat → Prop) (h : DU w d N sb k U) (hk : k < 1048576) (i : Nat) (hi : i < N) (A o c : Nat) (cs : List Value) (hsec : Sec cs) (hr : w.rangeAt A o cs) (hA : U A) :
    Calls Tryz.prog 201 #[.pointer (some ⟨d, 0, none⟩), .int .i64 i, .slice (some ⟨A, o, none⟩) 64 c] w fun e w' => e = .returned (.int .i64 0) ∧ DU w' d N sb (k + 1) U ∧ Kp U w w' := by
  obtain ⟨rv, h1, h2⟩ := h
  refine (write_calls w d N sb k rv h1 hk i hi A o c cs hsec hr (fun e => (h2 A hA).2 (.inr (.inr e))) (fun e => (h2 A hA).2 (.inl e))).mono ?_
  rintro e w' ⟨rv', he, hd, hb, ho⟩
  refine ⟨he, ⟨rv', hd, fun b hu => ⟨Nat.lt_of_lt_of_le (h2 b hu).1 hb.size, fun hf => ?_⟩⟩, Kp.of_but hb h2⟩
  rcases hf with hf | hf | hf
  · exact (h2 b hu).2 (.inl hf)
  · exact (h2 b hu).2 (.inr (.inl hf))
  · rcases ho with ho | ⟨g, ho, hg⟩
    · exact (h2 b hu).2 (.inr (.inr (ho ▸ hf)))
    · have := (h2 b hu).1
      rw [ho] at hf
      cases hf
      omega
theorem swrite_calls (w : World) (s d : Nat) (f z g : Int) (dead : Bool) (h : Sht w s d f z g dead) (N sb k : Nat) (U : Nat → Prop) (hd : DU w d N sb k U) (hs : U s) (hk : k < 1048576) (i : Nat) (hi : i < N) (zs : List Value) (hz : Sec zs) :
    Calls Tryz.prog 134 #[.pointer (some ⟨s, 0, none⟩), .int .i64 i, .agg zs.toArray] w fun e w' => e = .returned (.tuple #[]) ∧ DU w' d N sb (k + 1) U ∧ Kp U w w' := by
  have HD := Lib.hid (show _ ∧ _ ∧ _ from ⟨h, hd, hz⟩)
  have hsl := hd.lt hs
  have hzl := hz.1
  clear h hd hz
  go_enter Tryz.func134, Tryz.ntmps134
  go_wp2
  have hb1 : Below w.heap.size w (w.alloc (.cells zs.toArray 196)) := (Below.refl _ _).alloc (Nat.le_refl _) _
  have HD1 := Lib.hid (HD.out.2.1.more hb1)
  have g1 : (w.alloc (.cells zs.toArray 196)).cell? ⟨s, 0, none⟩ = some (.pointer (some ⟨d, 0, none⟩)) := (cellD ((heap_alloc_old w _ hsl).trans HD.out.1) 0).1
  have hrg : (w.alloc (.cells zs.toArray 196)).rangeAt w.heap.size 0 zs := by
    have := range_whole (heap_alloc_new w (.cells zs.toArray 196))
    simpa using this
  have HW := Lib.hid (uwrite_calls (w.alloc (.cells zs.toArray 196)).drew d N sb k _ (HD1.out.below (Below.refl _ _).drew) hk i hi w.heap.size 0 64 zs HD.out.2.2 ((World.rangeAt_drew _ _ _ _).2 hrg) (.inr ⟨Nat.le_refl _, by simp⟩))
  have K0 := Lib.hid hb1
  clear hb1 hrg
  go_region_held3 (fun W => W.cell? ⟨s, 0, none⟩ = some (.pointer (some ⟨d, 0, none⟩))) (first | go_keep | exact g2) ((go_at_call 201; refine HW.out.mono ?_; rintro e w2 ⟨rfl, hd2, kp2⟩; have g2 : w2.cell? ⟨s, 0, none⟩ = some (.pointer (some ⟨d, 0, none⟩)) := (cellD ((kp2.block s (.inl hs)).trans ((heap_alloc_old w _ hsl).trans HD.out.1)) 0).1; have H2 := Lib.hid (show _ ∧ _ from ⟨hd2, kp2⟩); clear hd2 kp2))
  go_wp2
  first | go_end0 | refine bodyPost_ret (results_none rfl _ _ _) rfl ?_
  exact ⟨rfl, H2.out.1.mono fun b hb => .inl hb, (Kp.of_below (K0.out.trans (Below.refl _ _).drew) fun b hb => HD.out.2.1.lt hb).trans (H2.out.2.mono fun b hb => .inl hb)⟩
end Go.Proofs.YtokflmiijdpchaaGreat
namespace Go.Proofs.YtokflmiijdpchaaGreat
open Go.RowKit
/-- A log. -/
def Lg (w : World) (l d : Nat) (fr n : Nat) (gen len old used : Int) : Prop := w.heap[l]? = some (.cells #[.pointer (some ⟨d, 0, none⟩), .int .i64 fr, .int .i64 n, .int .i64 gen, .int .i64 len, .int .i64 old, .int .i64 used, .bool false] 208 (0, 0))
set_option maxRecDepth 100000 in
set_option maxHeartbeats 2000000 in
theorem lread_calls (w : World) (l d fr n : Nat) (g1 g2 g3 g4 : Int) (h : Lg w l d fr n g1 g2 g3 g4) (N sb k : Nat) (U : Nat → Prop) (hd : DU w d N sb k U) (i : Nat) (hi : fr + i < N) :
    Calls Tryz.prog 177 #[.pointer (some ⟨l, 0, none⟩), .int .i64 i] w fun e w' => ∃ zs, e = .returned (.agg zs.toArray) ∧ Sec zs ∧ Below w.heap.size w w' := by
  have hll : l < w.heap.size := (Array.getElem?_eq_some_iff.1 h).1
  have hroom := hd.room
  have hwi : IntKind.i64.wrap ((fr : Int) + i) = ((fr + i : Nat) : Int) := by
    rw [IntKind.wrap_i64]
    omega
  obtain ⟨rv, hdk, -⟩ := hd
  have ga : ∀ o : Obj, (w.alloc o).cell? ⟨l, 0, none⟩ = some (.pointer (some ⟨d, 0, none⟩)) := fun o => (cellD ((heap_alloc_old w o hll).trans h) 0).1
  have gb : ∀ o : Obj, (w.alloc o).cell? ⟨l, 1, none⟩ = some (.int .i64 fr) := fun o => (cellD ((heap_alloc_old w o hll).trans h) 1).1
  have har : ∀ (W : World) (A : Nat), (Instr.arrayAt 277 (.slice (some ⟨A, 0, none⟩) 64 64)).run Tryz.prog W = .ok (.pointer (some ⟨A, 0, none⟩)) W := fun W A => run_arrayAt (P := Tryz.prog) W _ _ 64 _ 64 64 Tryz.underlying277 (Nat.le_refl _)
  have HD := Lib.hid (show _ ∧ _ from ⟨h, hdk⟩)
  clear h hdk
  go_enter Tryz.func177, Tryz.ntmps177
  go_wp2
  have hbz : ∀ o : Obj, Below w.heap.size w (w.alloc o) := fun o => (Below.refl _ _).alloc (Nat.le_refl _) _
  go_region_held3 (fun W => W.cell? ⟨l, 0, none⟩ = some (.pointer (some ⟨d, 0, none⟩)) ∧ W.cell? ⟨l, 1, none⟩ = some (.int .i64 fr)) (first | go_keep | exact ⟨e0, e1⟩) ((go_at_call 166; refine (read_calls _ d N sb k rv (HD.out.2.below (hbz _).drew) (fr + i) hi).mono ?_; rintro e w2 ⟨A, zs, rfl, hsec, hr, hA, hAl, hb2⟩; have e0 : w2.cell? ⟨l, 0, none⟩ = some (.pointer (some ⟨d, 0, none⟩)) := (cellD ((hb2.block l (by simp; omega)).trans ((heap_alloc_old w _ hll).trans HD.out.1)) 0).1; have e1 : w2.cell? ⟨l, 1, none⟩ = some (.int .i64 fr) := (cellD ((hb2.block l (by simp; omega)).trans ((heap_alloc_old w _ hll).trans HD.out.1)) 1).1; have HS := Lib.hid hsec; have H2 := Lib.hid (show _ ∧ _ ∧ _ ∧ _ from ⟨hr, hA, hAl, hb2⟩); clear hsec hr hA hAl hb2))
  go_wp2_with (first
    | (go_at_call 120; refine (fine_calls _).mono ?_; rintro e w' ⟨rfl, hw⟩; obtain rfl := hw.symm)
    | (refine wpList_load_mid rfl 277 (.tmp 24) rfl A 0 rfl zs _ H2.out.1 Tryz.underlying277 rfl (by rw [HS.out.1]; kernel_rfl) ?_)
    | (refine store_over _ rfl rfl 277 (.tmp 4) (.tmp 25) rfl w.heap.size 0 zs rfl rfl (there_whole ((H2.out.2.2.2.block w.heap.size (by simp)).trans (heap_alloc_new w _)) (by rw [HS.out.1]; decide)) (by rw [HS.out.1]; kernel_rfl) (sec_all HS.out) ?_; intro w4 hg4 hs4 hr4 ht4; have H4 := Lib.hid (show _ ∧ _ ∧ _ from ⟨hg4, hs4, hr4⟩); clear hg4 hs4 hr4 ht4))
  refine bodyPost_ret (results_cell_mid Tryz.results177 _ _ w.heap.size 0 zs _ rfl H4.out.2.2 Tryz.underlying277 rfl (by rw [HS.out.1]; kernel_rfl)) rfl ?_
  exact ⟨zs, rfl, HS.out, (((hbz _).drew).trans (H2.out.2.2.2.mono (by simp))).grown H4.out.1 (Nat.le_trans (by simp) H2.out.2.2.2.size) (fun q hq => by cases hq; exact Nat.le_refl _)⟩
set_option maxRecDepth 100000 in
set_option maxHeartbeats 2000000 in
theorem lwrite_calls (w : World) (l d fr n : Nat) (g1 g2 g3 g4 : Int) (h : Lg w l d fr n g1 g2 g3 g4) (N sb k : Nat) (U : Nat → Prop) (hd : DU w d N sb k U) (hl : U l) (hk : k < 1048576) (i : Nat) (hi : fr + i < N) (zs : List Value) (hz : Sec zs) :
    Calls Tryz.prog 182 #[.pointer (some ⟨l, 0, none⟩), .int .i64 i, .agg zs.toArray] w fun e w' => e = .returned (.tuple #[]) ∧ DU w' d N sb (k + 1) U ∧ Kp U w w' := by
  have hroom := hd.room
  have hwi : IntKind.i64.wrap ((fr : Int) + i) = ((fr + i : Nat) : Int) := by
    rw [IntKind.wrap_i64]
    omega
  have HD := Lib.hid (show _ ∧ _ ∧ _ from ⟨h, hd, hz⟩)
  have hsl := hd.lt hl
  have hzl := hz.1
  clear h hd hz
  go_enter Tryz.func182, Tryz.ntmps182
  go_wp2
  have hb1 : Below w.heap.size w (w.alloc (.cells zs.toArray 277)) := (Below.refl _ _).alloc (Nat.le_refl _) _
  have HD1 := Lib.hid (HD.out.2.1.more hb1)
  have c0 : (w.alloc (.cells zs.toArray 277)).cell? ⟨l, 0, none⟩ = some (.pointer (some ⟨d, 0, none⟩)) := (cellD ((heap_alloc_old w _ hsl).trans HD.out.1) 0).1
  have c1 : (w.alloc (.cells zs.toArray 277)).cell? ⟨l, 1, none⟩ = some (.int .i64 fr) := (cellD ((heap_alloc_old w _ hsl).trans HD.out.1) 1).1
  have hrg : (w.alloc (.cells zs.toArray 277)).rangeAt w.heap.size 0 zs := by
    have := range_whole (heap_alloc_new w (.cells zs.toArray 277))
    simpa using this
  have HW := Lib.hid (uwrite_calls (w.alloc (.cells zs.toArray 277)).drew d N sb k _ (HD1.out.below (Below.refl _ _).drew) hk (fr + i) hi w.heap.size 0 64 zs HD.out.2.2 ((World.rangeAt_drew _ _ _ _).2 hrg) (.inr ⟨Nat.le_refl _, by simp⟩))
  have K0 := Lib.hid hb1
  clear hb1 hrg
  go_region_held3 (fun W => W.cell? ⟨l, 0, none⟩ = some (.pointer (some ⟨d, 0, none⟩)) ∧ W.cell? ⟨l, 1, none⟩ = some (.int .i64 fr)) (first | go_keep | exact ⟨e0, e1⟩) (first
    | (go_at_call 201; refine HW.out.mono ?_; rintro e w2 ⟨rfl, hd2, kp2⟩; have e0 : w2.cell? ⟨l, 0, none⟩ = some (.pointer (some ⟨d, 0, none⟩)) := (cellD ((kp2.block l (.inl hl)).trans ((heap_alloc_old w _ hsl).trans HD.out.1)) 0).1; have e1 : w2.cell? ⟨l, 1, none⟩ = some (.int .i64 fr) := (cellD ((kp2.block l (.inl hl)).trans ((heap_alloc_old w _ hsl).trans HD.out.1)) 1).1; have H2 := Lib.hid (show _ ∧ _ from ⟨hd2, kp2⟩); clear hd2 kp2)
    | (go_at_call 120; refine (fine_calls _).mono ?_; rintro e w' ⟨rfl, hw⟩; obtain rfl := hw.symm))
  go_wp2
  first | go_end0 | refine bodyPost_ret (results_none rfl _ _ _) rfl ?_
  exact ⟨rfl, H2.out.1.mono fun b hb => .inl hb, (Kp.of_below (K0.out.trans (Below.refl _ _).drew) fun b hb => HD.out.2.1.lt hb).trans (H2.out.2.mono fun b hb => .inl hb)⟩
end Go.Proofs.YtokflmiijdpchaaGreat
