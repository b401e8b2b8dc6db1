/- Snapshots read a sector, whatever it holds. -/
import Derived.Test.YtokflmiijdpchaaGreatD7
namespace Go.Proofs.YtokflmiijdpchaaGreat
open Go.RowKit
set_option maxRecDepth 100000 in
set_option maxHeartbeats 2000000 in
theorem sread_any (w : World) (s d : Nat) (f z g : Int) (dead : Bool) (h : Sht w s d f z g dead) (N sb k : Nat) (rv : Value) (hd : Dsk w d N sb rv k) (i : Nat) (hi : i < N) :
    Calls Tryz.prog 104 #[.pointer (some ⟨s, 0, none⟩), .int .i64 i] w fun e w' => ∃ zs, e = .returned (.agg zs.toArray) ∧ Sec zs ∧ Below w.heap.size w w' := by
  have g0 : w.cell? ⟨s, 0, none⟩ = some (.pointer (some ⟨d, 0, none⟩)) := (cellD h 0).1
  have ga : ∀ o : Obj, (w.alloc o).cell? ⟨s, 0, none⟩ = some (.pointer (some ⟨d, 0, none⟩)) := fun o => (World.cell?_of_block (a := ⟨s, 0, none⟩) (heap_alloc_old w o (Array.getElem?_eq_some_iff.1 h).1)).trans g0
  have HD := Lib.hid hd
  have har : ∀ (W : World) (A : Nat), (Instr.arrayAt 196 (.slice (some ⟨A, 0, none⟩) 64 64)).run Tryz.prog W = .ok (.pointer (some ⟨A, 0, none⟩)) W := fun W A => run_arrayAt (P := Tryz.prog) W _ _ 64 _ 64 64 Tryz.underlying196 (Nat.le_refl _)
  clear h hd
  go_enter Tryz.func104, Tryz.ntmps104
  go_wp2_with (first
    | (go_at_call 166; refine (read_calls _ d N sb k rv (HD.out.below ((Below.refl _ _).alloc (Nat.le_refl _) _)) i hi).mono ?_; rintro e w2 ⟨A, zs, rfl, hsec, hr, hA, hAl, hb2⟩; have HS := Lib.hid hsec; have H2 := Lib.hid (show _ ∧ _ ∧ _ ∧ _ from ⟨hr, hA, hAl, hb2⟩); clear hsec hr hA hAl hb2)
    | (refine wpList_load_mid rfl 196 (.tmp 21) rfl A 0 rfl zs _ H2.out.1 Tryz.underlying196 rfl (by rw [HS.out.1]; kernel_rfl) ?_)
    | (refine store_over _ rfl rfl 196 (.tmp 4) (.tmp 22) rfl w.heap.size 0 zs rfl rfl (there_whole ((H2.out.2.2.2.block w.heap.size (by simp)).trans (heap_alloc_new w _)) (by rw [HS.out.1]; decide)) (by rw [HS.out.1]; kernel_rfl) (sec_all HS.out) ?_; intro w4 hg4 hs4 hr4 ht4; have H4 := Lib.hid (show _ ∧ _ ∧ _ from ⟨hg4, hs4, hr4⟩); clear hg4 hs4 hr4 ht4))
  refine bodyPost_ret (results_cell_mid Tryz.results104 _ _ w.heap.size 0 zs _ rfl H4.out.2.2 Tryz.underlying196 rfl (by rw [HS.out.1]; kernel_rfl)) rfl ?_
  exact ⟨zs, rfl, HS.out, (((Below.refl w.heap.size w).alloc (Nat.le_refl _) _).trans (H2.out.2.2.2.mono (by simp))).grown H4.out.1 (Nat.le_trans (by simp) H2.out.2.2.2.size) (fun q hq => by cases hq; exact Nat.le_refl _)⟩
end Go.Proofs.YtokflmiijdpchaaGreat
