/- A disk of zeros. -/
import Derived.Test.YtokflmiijdpchaaGreatD3
import Derived.OwnWalk
import Derived.Laws.Cover3
import Derived.Laws.OwnMore
namespace Go.Proofs.YtokflmiijdpchaaGreat
open Go.RowKit
def Zro (w : World) (sb N : Nat) : Prop := ∃ c, w.heap[sb]? = some (.cells c 90 (0, 0)) ∧ c.size = N * 64 ∧ ∀ v ∈ c, v = .int .u8 0
def z64 : List Value := List.replicate 64 (.int .u8 0)
theorem z64_sec : Sec z64 := ⟨by simp [z64], fun v hv => ⟨0, by omega, by omega, List.eq_of_mem_replicate hv⟩⟩
theorem zro_made {w : World} {base N A : Nat} {z : Value} (h : w.ownsRow base 90 64 (.slice (some ⟨A, 0, none⟩) N N) N (madeCells z.cells (N * 64)).toList) (hz : z.cells = z64.toArray) : Zro w A N := by
  rcases h.2 with ⟨h0, _⟩ | ⟨g, cap, cur, hv, hb, hg, hn, hc, hs, ht⟩
  · cases h0
  · injection hv with e1 _ e2
    injection e1 with e1
    injection e1 with e1
    subst e1; subst e2
    refine ⟨cur, hg, hs, fun v hv => ?_⟩
    have he : cur.toList = (madeCells z.cells (N * 64)).toList := by
      rw [← ht]
      exact (List.take_of_length_le (by rw [Array.length_toList, hs]; exact Nat.le_refl _)).symm
    have hm : v ∈ madeCells z.cells (N * 64) := Array.mem_toList_iff.1 (he ▸ Array.mem_toList_iff.2 hv)
    unfold madeCells at hm
    rw [Array.mem_map] at hm
    obtain ⟨q, _, rfl⟩ := hm
    rw [hz]
    have h64 : z64.toArray.size = 64 := by simp [z64]
    have hq : q % z64.toArray.size < z64.toArray.size := by rw [h64]; omega
    rw [getElem!_pos z64.toArray _ hq]
    exact List.eq_of_mem_replicate (List.mem_toArray.1 (Array.getElem_mem hq))
theorem zro_alloc {w : World} {A N : Nat} (h : Zro w A N) (o : Obj) : Zro (w.alloc o) A N := by
  obtain ⟨c, h1, h2⟩ := h
  exact ⟨c, (heap_alloc_old _ _ (Array.getElem?_eq_some_iff.1 h1).1).trans h1, h2⟩
theorem zro_there {w : World} {A N : Nat} (h : Zro w A N) {i : Nat} (hi : i < N) : w.there A (i * 64) 64 := fun j hj => by
  obtain ⟨c, h2, h3, -⟩ := h
  obtain ⟨h4, h5⟩ := cellD h2 (i * 64 + j)
  have hlt : i * 64 + j < N * 64 := by
    have : (i + 1) * 64 ≤ N * 64 := Nat.mul_le_mul_right _ hi
    omega
  exact ⟨by rw [h4, Array.getElem?_eq_getElem (by omega)]; rfl, h5⟩
theorem zro_u8 {w : World} {A N : Nat} (h : Zro w A N) : ∃ c, w.heap[A]? = some (.cells c 90 (0, 0)) ∧ c.size = N * 64 ∧ ∀ v ∈ c, IsU8 v := by
  obtain ⟨c, h1, h2, h3⟩ := h
  exact ⟨c, h1, h2, fun v hv => ⟨0, by omega, by omega, h3 v hv⟩⟩
theorem zro_put {w : World} {A N : Nat} (h : Zro w A N) {zs : List Value} (hz : ∀ v ∈ zs, v = .int .u8 0) (o : Nat) : Zro (w.drew.setCells A o zs) A N := by
  obtain ⟨c, h1, h2, h3⟩ := h
  obtain ⟨c', g1, g2, g3⟩ := setC_block (fun v => v = .int .u8 0) zs o w.drew c h1 h3 hz
  exact ⟨c', g1, g2.trans h2, g3⟩
theorem drew_grown {w w' : World} {r : Option Nat} (h : w.drew.grownBy w' r) : w.grownBy w' r := ⟨h.os, h.tape, h.output, h.size, h.block⟩
theorem Below.of_grown {w w' : World} (h : w.grownBy w' none) : Below w.heap.size w w' := ⟨h.os, h.tape, h.output, h.size, fun k hk => h.block k hk (by simp)⟩
set_option maxRecDepth 100000 in
set_option maxHeartbeats 2000000 in
theorem load_zeros (w : World) (b n c N : Nat) (hn : n = N * 64) (h1 : 1 ≤ N) (h2 : N ≤ 65536) (hz : ∀ j, j < n → w.cell? ⟨b, j, none⟩ = some (.int .u8 0)) (hlt : b < w.heap.size) (hc : n ≤ c) : Calls Tryz.prog 19 #[.slice (some ⟨b, 0, none⟩) n c] w fun e w' => ∃ d sb, e = .returned (.tuple #[.pointer (some ⟨d, 0, none⟩), .int .i64 0]) ∧ Dsk w' d N sb (.slice none 0 0) 0 ∧ Zro w' sb N ∧ w.heap.size ≤ d ∧ w.heap.size ≤ sb ∧ Below w.heap.size w w' := by
  obtain ⟨i0, hi0, hz0, hz1, hz2⟩ : ∃ i0, Tryz.prog.info? 90 = some i0 ∧ (∃ z, i0.zero = some z ∧ z.cells = (z64).toArray) ∧ i0.size = 64 ∧ i0.bytes = 64 := ⟨_, rfl, ⟨_, rfl, rfl⟩, rfl, rfl⟩
  obtain ⟨z, hz0, hzc⟩ := hz0
  have HZ := Lib.hid (show _ ∧ _ ∧ _ ∧ _ ∧ _ from ⟨hi0, hz0, hzc, hz1, hz2⟩)
  have HI := Lib.hid (show _ ∧ _ from ⟨hz, hlt⟩)
  clear hi0 hz0 hzc hz1 hz2 hz hlt
  subst hn
  go_enter Tryz.func19, Tryz.ntmps19
  go_wp2_with (first
    | (at_make; refine wpList_make_full _ rfl _ _ 84 rfl w.heap.size 90 i0 z 64 Tryz.underlying84 HZ.out.1 HZ.out.2.1 HZ.out.2.2.2.1 .i64 .i64 N N N rfl rfl rfl rfl (by rw [HZ.out.2.2.2.2]; omega) (by unfold maxLen; omega) (Nat.le_refl _) ?_; intro w2 hown hg2; have HO := Lib.hid (show _ ∧ _ from ⟨hown, hg2⟩); clear hown hg2))
  have hZ2 : Zro w2 w.heap.size N := zro_made HO.out.1 HZ.out.2.2.1
  have hlt2 : w.heap.size < w2.heap.size := by
    obtain ⟨c, h, -⟩ := hZ2
    exact (Array.getElem?_eq_some_iff.1 h).1
  have HS := Lib.hid (show _ ∧ _ from ⟨hZ2, hlt2⟩)
  clear hZ2 hlt2
  go_loopw [32] (fun v wr => ∃ j : Nat, j ≤ N ∧ v = .int .i64 j ∧ wr.heap[w2.heap.size]? = some (.cells #[.slice (some ⟨w.heap.size, 0, none⟩) N N, .slice none 0 0, .bool false, .int .i64 0, .int .i64 0, .int .i64 0] 88 (0, 0)) ∧ Zro wr w.heap.size N ∧ Below w.heap.size w wr) (fun v _ => N - (intOf v).toNat)
  case atStart => exact ⟨0, by omega, rfl, heap_alloc_new _ _, zro_alloc HS.out.1 _, (Below.of_grown HO.out.2).alloc (Nat.le_of_lt HS.out.2) _⟩
  case round =>
    obtain ⟨j, hj, rfl, hblk, hzr, hbe⟩ := hrel
    have HR := Lib.hid (show _ ∧ _ ∧ _ from ⟨hblk, hzr, hbe⟩)
    have f0 := (cellD hblk 0).1
    clear hblk hzr hbe
    by_cases hjN : j < N
    · have hun := Tryz.underlying90
      have hsz : (Tryz.prog.info? 90).map (·.size) = some z64.length := by kernel_rfl
      have hl64 : z64.length = 64 := by simp [z64]
      have hone : ∀ v ∈ z64, v.oneCell' = true := fun v hv => (z64_sec.2 v hv).one
      have hrg : wr.rangeAt b (j * 64) z64 := fun q v hv => by
        have hq : q < 64 := by have := (List.getElem?_eq_some_iff.1 hv).1; omega
        have hv' : v = .int .u8 0 := List.eq_of_mem_replicate (List.mem_of_getElem? hv)
        rw [hv', World.cell?_of_block (a := ⟨b, j * 64 + q, none⟩) (HR.out.2.2.block b HI.out.2)]
        exact HI.out.1 _ (by omega)
      obtain ⟨zs, hrg, hsz, hl64, hone, hzs⟩ : ∃ zs : List Value, wr.rangeAt b (j * 64) zs ∧ (Tryz.prog.info? 90).map (·.size) = some zs.length ∧ zs.length = 64 ∧ (∀ v ∈ zs, v.oneCell' = true) ∧ (∀ v ∈ zs, v = .int .u8 0) := ⟨z64, hrg, hsz, hl64, hone, fun v hv => List.eq_of_mem_replicate hv⟩
      have HZS := Lib.hid hzs
      clear hzs
      have hth : wr.there w.heap.size (j * 64) 64 := zro_there HR.out.2.1 hjN
      have har : ∀ W : World, (Instr.arrayAt 90 (.slice (some ⟨b, j * 64, none⟩) (N * 64 - j * 64) (c - j * 64))).run Tryz.prog W = .ok (.pointer (some ⟨b, j * 64, none⟩)) W := fun W => run_arrayAt (P := Tryz.prog) W _ _ 64 _ _ _ Tryz.underlying90 (by omega)
      have hlS := HS.out.2
      have hbl := HI.out.2
      have k3 : (wr.drew.setCells w.heap.size (j * 64) zs).rangeAt b (j * 64) zs := World.rangeAt_setCells_apart ((World.rangeAt_drew _ _ _ _).2 hrg) _ _ _ (.inl (by omega))
      have k4 : (wr.drew.setCells w.heap.size (j * 64) zs).there w.heap.size (j * 64) 64 := World.there_setCells ((World.there_drew _ _ _ _).2 hth) _ _ _
      have k1 : (wr.drew.setCells w.heap.size (j * 64) zs).cell? ⟨w2.heap.size, 0, none⟩ = some (.slice (some ⟨w.heap.size, 0, none⟩) N N) := (World.cell?_setCells_out _ _ _ _ _ (fun e => absurd e (show w2.heap.size ≠ w.heap.size by omega))).trans f0
      have b0 : (0 : Int) ≤ (j : Int) * 64 := by omega
      have b1 : (j : Int) * 64 ≤ (N : Int) * 64 := by omega
      have b2 : (N : Int) * 64 ≤ (c : Int) := by omega
      have b3 : ¬ c = j * 64 := by omega
      have b4 : ((j : Int) * 64).toNat = j * 64 := by omega
      have b5 : j * 64 ≤ N * 64 := by omega
      have hw1 : IntKind.i64.wrap ((j : Int) * 64) = (j : Int) * 64 := by rw [IntKind.wrap_i64]; omega
      have hw2 : wrap64 ((j : Int) * 64) = (j : Int) * 64 := by unfold wrap64; omega
      go_wp2
      go_region_held3 (fun W => W.rangeAt b (j * 64) zs ∧ W.there w.heap.size (j * 64) 64 ∧ W.cell? ⟨w2.heap.size, 0, none⟩ = some (.slice (some ⟨w.heap.size, 0, none⟩) N N)) (first | go_keep_ranges | exact ⟨k3, k4, k1⟩) (fail)
      go_wp2
      obtain ⟨hg, hs⟩ := setC w.heap.size zs (j * 64) wr.drew
      have hlw : w2.heap.size < wr.heap.size := (Array.getElem?_eq_some_iff.1 HR.out.1).1
      exact ⟨⟨j + 1, by omega, by go_num, (hg.block _ hlw (fun e => by have := Option.some.inj e; omega)).trans HR.out.1, zro_put HR.out.2.1 HZS.out _, HR.out.2.2.grown (drew_grown hg) HR.out.2.2.size (fun q hq => by cases hq; exact Nat.le_refl _)⟩, by simp [intOf]; omega⟩
    · obtain rfl : j = N := by omega
      go_wp2
      go_ret2
      refine ⟨w2.heap.size, w.heap.size, rfl, ⟨⟨0, 0, 0, HR.out.1⟩, zro_u8 HR.out.2.1, ⟨0, [], World.ownsRow_nil _ _ _ _, fun i hi => absurd hi (by omega)⟩, by omega, by omega⟩, HR.out.2.1, Nat.le_of_lt HS.out.2, Nat.le_refl _, HR.out.2.2⟩
end Go.Proofs.YtokflmiijdpchaaGreat
