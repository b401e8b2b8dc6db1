/- Snapshots read a sector. No snapshot stands on a disk of zeros. -/
import Derived.Test.YtokflmiijdpchaaGreatD5
import Derived.Test.YtokflmiijdpchaaGreatD6
namespace Go.Proofs.YtokflmiijdpchaaGreat
open Go.RowKit
theorem zro_range {w : World} {A N : Nat} (h : Zro w A N) (i : Nat) (hi : i < N) : w.rangeAt A (i * 64) z64 := fun q v hv => by
  obtain ⟨c, h1, h2, h3⟩ := h
  have hq : q < 64 := by have := (List.getElem?_eq_some_iff.1 hv).1; simp [z64] at this; omega
  have hv' : v = .int .u8 0 := List.eq_of_mem_replicate (List.mem_of_getElem? hv)
  have hlt : i * 64 + q < c.size := by
    have : (i + 1) * 64 ≤ N * 64 := Nat.mul_le_mul_right _ hi
    omega
  rw [hv', (cellD h1 _).1, Array.getElem?_eq_getElem hlt, h3 _ (Array.getElem_mem hlt)]
theorem zro_below {w w' : World} {A N : Nat} (h : Zro w A N) (hb : Below w.heap.size w w') : Zro w' A N := by
  obtain ⟨c, h1, h2⟩ := h
  exact ⟨c, (hb.block A (Array.getElem?_eq_some_iff.1 h1).1).trans h1, h2⟩
set_option maxRecDepth 100000 in
set_option maxHeartbeats 2000000 in
theorem sread_zero (w : World) (s d : Nat) (f z g : Int) (dead : Bool) (h : Sht w s d f z g dead) (N sb : Nat) (hd : Dsk w d N sb (.slice none 0 0) 0) (hz : Zro w sb N) (i : Nat) (hi : i < N) :
    Calls Tryz.prog 104 #[.pointer (some ⟨s, 0, none⟩), .int .i64 i] w fun e w' => e = .returned (.agg z64.toArray) ∧ Below w.heap.size w w' := by
  have g0 : w.cell? ⟨s, 0, none⟩ = some (.pointer (some ⟨d, 0, none⟩)) := (cellD h 0).1
  have ga : ∀ o : Obj, (w.alloc o).cell? ⟨s, 0, none⟩ = some (.pointer (some ⟨d, 0, none⟩)) := fun o => (World.cell?_of_block (a := ⟨s, 0, none⟩) (heap_alloc_old w o (Array.getElem?_eq_some_iff.1 h).1)).trans g0
  have HD := Lib.hid (show _ ∧ _ from ⟨hd, hz⟩)
  have har : ∀ (W : World) (A : Nat), (Instr.arrayAt 196 (.slice (some ⟨A, 0, none⟩) 64 64)).run Tryz.prog W = .ok (.pointer (some ⟨A, 0, none⟩)) W := fun W A => run_arrayAt (P := Tryz.prog) W _ _ 64 _ 64 64 Tryz.underlying196 (Nat.le_refl _)
  obtain ⟨zs, hzl, hzo, hzz⟩ : ∃ zs : List Value, zs.length = 64 ∧ (∀ v ∈ zs, v.oneCell' = true) ∧ z64 = zs := ⟨z64, by simp [z64], fun v hv => (z64_sec.2 v hv).one, rfl⟩
  have hsec : Sec zs := hzz ▸ z64_sec
  have HS := Lib.hid (show _ ∧ _ ∧ _ ∧ _ from ⟨hzl, hzo, hzz, hsec⟩)
  rw [hzz]
  clear h hd hz hzl hzo hzz hsec
  go_enter Tryz.func104, Tryz.ntmps104
  go_wp2_with (first
    | (go_at_call 166; refine (read_nil _ d N sb (HD.out.1.below ((Below.refl _ _).alloc (Nat.le_refl _) _)) i hi zs HS.out.2.2.2 (by rw [← HS.out.2.2.1]; exact zro_range (zro_below HD.out.2 ((Below.refl _ _).alloc (Nat.le_refl _) _)) i hi)).mono ?_; rintro e w2 ⟨A, rfl, hr, hA, hAl, hb2⟩; have H2 := Lib.hid (show _ ∧ _ ∧ _ ∧ _ from ⟨hr, hA, hAl, hb2⟩); clear hr hA hAl hb2)
    | (refine wpList_load_mid rfl 196 (.tmp 21) rfl A 0 rfl zs _ H2.out.1 Tryz.underlying196 rfl (by rw [HS.out.1]; kernel_rfl) ?_)
    | (refine store_over _ rfl rfl 196 (.tmp 4) (.tmp 22) rfl w.heap.size 0 zs rfl rfl (there_whole ((H2.out.2.2.2.block w.heap.size (by simp)).trans (heap_alloc_new w _)) (by rw [HS.out.1]; decide)) (by rw [HS.out.1]; kernel_rfl) (all_oneCell_toArray HS.out.2.1) ?_; intro w4 hg4 hs4 hr4 ht4; have H4 := Lib.hid (show _ ∧ _ ∧ _ from ⟨hg4, hs4, hr4⟩); clear hg4 hs4 hr4 ht4))
  refine bodyPost_ret (results_cell_mid Tryz.results104 _ _ w.heap.size 0 zs _ rfl H4.out.2.2 Tryz.underlying196 rfl (by rw [HS.out.1]; kernel_rfl)) rfl ?_
  exact ⟨rfl, (((Below.refl w.heap.size w).alloc (Nat.le_refl _) _).trans (H2.out.2.2.2.mono (by simp))).grown H4.out.1 (Nat.le_trans (by simp) H2.out.2.2.2.size) (fun q hq => by cases hq; exact Nat.le_refl _)⟩
end Go.Proofs.YtokflmiijdpchaaGreat
namespace Go.Proofs.YtokflmiijdpchaaGreat
open Go.RowKit
set_option maxRecDepth 100000 in
set_option maxHeartbeats 2000000 in
theorem stands_zero (w : World) (s d : Nat) (f z g : Int) (dead : Bool) (h : Sht w s d f z g dead) (N sb : Nat) (hd : Dsk w d N sb (.slice none 0 0) 0) (hz : Zro w sb N) (odd : Int) (at_ : Nat) (hat : at_ < N)
    (hslot : ∀ W, Sht W s d f z g dead → Calls Tryz.prog 103 #[.pointer (some ⟨s, 0, none⟩), .int .i64 odd] W fun e w' => e = .returned (.int .i64 at_) ∧ Below W.heap.size W w') :
    Calls Tryz.prog 62 #[.pointer (some ⟨s, 0, none⟩), .int .i64 odd] w fun e w' => e = .returned (.tuple #[.int .i64 0, .slice none 0 0, .bool false]) ∧ Below w.heap.size w w' := by
  have HD := Lib.hid (show _ ∧ _ ∧ _ from ⟨h, hd, hz⟩)
  obtain ⟨zs, hzl, hzo, hzz⟩ : ∃ zs : List Value, zs.length = 64 ∧ (∀ v ∈ zs, v.oneCell' = true) ∧ z64 = zs := ⟨z64, by simp [z64], fun v hv => (z64_sec.2 v hv).one, rfl⟩
  have HS := Lib.hid (show _ ∧ _ ∧ _ from ⟨hzl, hzo, hzz⟩)
  have HSL := Lib.hid hslot
  clear h hd hz hzl hzo hzz hslot
  go_enter Tryz.func62, Tryz.ntmps62
  go_wp2_with (first
    | (go_at_call 103; refine (HSL.out _ HD.out.1).mono ?_; rintro e w1 ⟨rfl, hb1⟩)
    | (go_at_call 104; refine (sread_zero _ s d f z g dead ((hb1.block s (Array.getElem?_eq_some_iff.1 HD.out.1).1).trans HD.out.1) N sb (HD.out.2.1.below hb1) (zro_below HD.out.2.2 hb1) at_ hat).mono ?_; rintro e w2 ⟨rfl, hb2⟩)
    | (rw [HS.out.2.2]; refine store_fresh _ _ rfl rfl 196 (.tmp 8) (.tmp 18) rfl zs rfl rfl (by rw [HS.out.1]; decide) (by rw [HS.out.1]; kernel_rfl) (all_oneCell_toArray HS.out.2.1) ?_; intro w3 hb3 hs3 hr3 ht3; have H3 := Lib.hid (show _ ∧ _ ∧ _ from ⟨hb3, hs3, hr3⟩); clear hb3 hs3 hr3 ht3))
  have hc : ∀ o n, o + n ≤ 64 → ∀ j, j < n → w3.cell? ⟨w2.heap.size, o + j, none⟩ = some (.int .u8 0) := fun o n hon j hj => by
    have hlt : o + j < zs.length := by rw [HS.out.1]; omega
    have h1 := H3.out.2.2 (o + j) _ (List.getElem?_eq_getElem hlt)
    rw [Nat.zero_add] at h1
    have hm : zs[o + j] ∈ z64 := by rw [HS.out.2.2]; exact List.getElem_mem hlt
    rw [h1, List.eq_of_mem_replicate hm]
  have HG1 := Lib.hid (show ∀ q, Calls Tryz.prog 105 #[.slice (some ⟨w2.heap.size, 4, none⟩) 8 60] (w3.drewN q) fun e w' => e = .returned (.int .u64 0) ∧ ∃ m, w' = w3.drewN m from fun q => Calls.quiet_of_same (got_zero _ w2.heap.size 4 8 60 (by omega) (hc 4 8 (by omega))))
  have HG2 := Lib.hid (show ∀ q, Calls Tryz.prog 105 #[.slice (some ⟨w2.heap.size, 12, none⟩) 4 52] (w3.drewN q) fun e w' => e = .returned (.int .u64 0) ∧ ∃ m, w' = w3.drewN m from fun q => Calls.quiet_of_same (got_zero _ w2.heap.size 12 4 52 (by omega) (hc 12 4 (by omega))))
  clear hc
  go_quiet ((go_at_call 105; with_reducible first | exact HG1.out _ | exact HG2.out _))
  go_wp2
  go_ret3
  exact ⟨rfl, ((hb1.trans (hb2.mono hb1.size)).trans (H3.out.1.mono (Nat.le_trans hb1.size hb2.size))).trans ((below_dn w3 nq).mono (Nat.le_trans (Nat.le_trans hb1.size hb2.size) H3.out.1.size))⟩
end Go.Proofs.YtokflmiijdpchaaGreat
