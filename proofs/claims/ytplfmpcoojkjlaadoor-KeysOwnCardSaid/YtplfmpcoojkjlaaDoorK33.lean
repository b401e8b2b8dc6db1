/- What comes in: bytes and rows of parts, read out of the memory as data. -/
import Derived.Test.YtplfmpcoojkjlaaDoorK41
import Derived.Test.YtplfmpcoojkjlaaDoorRows
import Derived.ProofKit
import Derived.OpenShut
import Derived.JoinedCond
import Derived.Carry
import Derived.ChangeArms
import Derived.Deep.Slices
namespace Go.Proofs.YtplfmpcoojkjlaaDoor
open Go.ChangeShapes Go.WideShapes Go.ChangeAt Go.RowKit
section
variable {H : Type} {enc : TypeId × Value → H} {W : World}
theorem cells_u8 : Tryd.prog.cellsOf 5 = 1 := by kernel_rfl
theorem cells_int : Tryd.prog.cellsOf 3 = 1 := by kernel_rfl
theorem cells_i64 : Tryd.prog.cellsOf 2 = 1 := by kernel_rfl
theorem cells_u64 : Tryd.prog.cellsOf 42 = 1 := by kernel_rfl
theorem cells_bool : Tryd.prog.cellsOf 4 = 1 := by kernel_rfl
theorem cells_text : Tryd.prog.cellsOf 24 = 1 := by kernel_rfl
theorem cells_parts : Tryd.prog.cellsOf 22 = 1 := by kernel_rfl
theorem cells_part : Tryd.prog.cellsOf 69 = 7 := by kernel_rfl
/-- A slice of bytes that is read. -/
theorem open_text {fuel : Nat} {cs : List Value} {x : DataW H × List MemPlace} (h : DataW.trod enc Tryd.prog W 0 (fun _ => true) true fuel 24 cs = some x) :
    ∃ (th : Hdr) (xs : List Int), cs = [.slice th.A xs.length th.cap] ∧ xs.length ≤ th.cap ∧ th.cap ≤ maxLen ∧ Byt xs ∧ Row W th.A (nums8 xs) := by
  rcases open_ints Tryd.underlying24 Tryd.underlying5 cells_u8 h with ⟨rfl, _⟩ | ⟨a, len, cap, zs, rfl, _, hl, hm, hz, _, hcell, hwz⟩
  · exact ⟨⟨none, 0⟩, [], rfl, Nat.le_refl _, Nat.zero_le _, (fun x hx => by cases hx), .inl rfl⟩
  · simp only [if_true] at hz
    have hlen : (zs.take len).length = len := by simp; omega
    refine ⟨⟨some a, cap⟩, zs.take len, by rw [hlen], by rw [hlen]; exact hl, hm, fun x hx => ?_, ?_⟩
    · have hb := bounds_u8 (hwz x (List.mem_of_mem_take hx))
      omega
    · by_cases h0 : len = 0
      · subst h0; exact .inl rfl
      obtain ⟨ab, ao, spot⟩ := a
      have hspot : spot = none := by simpa [Addr.add] using World.cell?_spot (hcell 0 (by omega))
      subst hspot
      have hc0 := hcell 0 (by omega)
      rw [Addr.add_lit] at hc0
      refine .inr ⟨ab, ao, rfl, World.block_lt_of_cell? _ _ hc0, fun i u hu => ?_⟩
      have hi : i < len := by
        have := (List.getElem?_eq_some_iff.1 hu).1
        rw [nums8_length, hlen] at this
        exact this
      rw [nums8_get _ _ (by rw [hlen]; exact hi)] at hu
      injection hu with hu
      subst hu
      have hci := hcell i (by omega)
      rw [Addr.add_lit] at hci
      rw [hci, List.getElem_take]
      simp [List.getD, List.getElem?_eq_getElem (show i < zs.length by omega)]
def PartsOf (W : World) (cs : List Value) : Prop := ∃ (h : Hdr) (ms : List (LT PS)), cs = [.slice h.A ms.length h.cap] ∧ ms.length ≤ h.cap ∧ h.cap ≤ maxLen ∧ RdL PS.enc W h.A ms ∧ TT.alls PS.fits (LT.pures ms)
def PartOf (W : World) (cs : List Value) : Prop := ∃ l : LT PS, cs = l.cells PS.enc ∧ l.Rd PS.enc W ∧ l.pure.all PS.fits
set_option maxRecDepth 100000 in
/-- A part that is read, if the lists in it are. -/
theorem open_part {n : Nat} {cs : List Value} {x : DataW H × List MemPlace} (h : DataW.trod enc Tryd.prog W 0 (fun _ => true) true n 69 cs = some x)
    (IH : ∀ m, m < n → ∀ cs x, DataW.trod enc Tryd.prog W 0 (fun _ => true) true m 22 cs = some x → PartsOf W cs) : PartOf W cs := by
  obtain ⟨ys, m, rfl, _, hlen, hyl, hf⟩ := DataW.trod_struct Tryd.underlying69 h
  rw [cells_part] at hlen
  match cs, hlen with
  | [c0, c1, c2, c3, c4, c5, c6], _ =>
    match ys, hyl with
    | [y0, y1, y2, y3, y4, y5, y6], _ =>
      have f0 : DataW.trod enc Tryd.prog W 0 (fun _ => true) true m 3 (([c0, c1, c2, c3, c4, c5, c6].drop 0).take (Tryd.prog.cellsOf 3)) = some y0 := hf 0 _ rfl
      rw [cells_int] at f0
      have f1 : DataW.trod enc Tryd.prog W 0 (fun _ => true) true m 4 (([c0, c1, c2, c3, c4, c5, c6].drop 1).take (Tryd.prog.cellsOf 4)) = some y1 := hf 1 _ rfl
      rw [cells_bool] at f1
      have f2 : DataW.trod enc Tryd.prog W 0 (fun _ => true) true m 2 (([c0, c1, c2, c3, c4, c5, c6].drop 2).take (Tryd.prog.cellsOf 2)) = some y2 := hf 2 _ rfl
      rw [cells_i64] at f2
      have f3 : DataW.trod enc Tryd.prog W 0 (fun _ => true) true m 42 (([c0, c1, c2, c3, c4, c5, c6].drop 3).take (Tryd.prog.cellsOf 42)) = some y3 := hf 3 _ rfl
      rw [cells_u64] at f3
      have f4 : DataW.trod enc Tryd.prog W 0 (fun _ => true) true m 42 (([c0, c1, c2, c3, c4, c5, c6].drop 4).take (Tryd.prog.cellsOf 42)) = some y4 := hf 4 _ rfl
      rw [cells_u64] at f4
      have f5 : DataW.trod enc Tryd.prog W 0 (fun _ => true) true m 24 (([c0, c1, c2, c3, c4, c5, c6].drop 5).take (Tryd.prog.cellsOf 24)) = some y5 := hf 5 _ rfl
      rw [cells_text] at f5
      have f6 : DataW.trod enc Tryd.prog W 0 (fun _ => true) true m 22 (([c0, c1, c2, c3, c4, c5, c6].drop 6).take (Tryd.prog.cellsOf 22)) = some y6 := hf 6 _ rfl
      rw [cells_parts] at f6
      obtain ⟨kd, h0, _, w0⟩ := DataW.trod_int Tryd.underlying3 f0
      obtain ⟨bb, h1, _⟩ := DataW.trod_bool Tryd.underlying4 f1
      obtain ⟨nn, h2, _, w2⟩ := DataW.trod_int Tryd.underlying2 f2
      obtain ⟨re, h3, _, w3⟩ := DataW.trod_int Tryd.underlying42 f3
      obtain ⟨im, h4, _, w4⟩ := DataW.trod_int Tryd.underlying42 f4
      obtain ⟨th, tx, h5, t1, t2, t3, t4⟩ := open_text f5
      obtain ⟨ph, ps, h6, p1, p2, p3, p4⟩ := IH m (by omega) _ _ f6
      have b2 := bounds_i64 w2
      have b3 := bounds_u64 w3
      have b4 := bounds_u64 w4
      obtain ⟨re, rfl⟩ := Int.eq_ofNat_of_zero_le b3.1
      obtain ⟨im, rfl⟩ := Int.eq_ofNat_of_zero_le b4.1
      simp only [List.drop_succ_cons, List.drop_zero, List.take_succ_cons, List.take_zero, List.cons.injEq, and_true] at h0 h1 h2 h3 h4 h5 h6
      subst h0 h1 h2 h3 h4 h5 h6
      refine ⟨.mk ⟨kd, bb, nn, re, im⟩ th tx ph ps, rfl, .mk t1 t4 p1 p3.row ⟨?_, p3.len⟩ p3.all, ⟨⟨⟨?_, ?_, t3⟩, ?_⟩, p4⟩⟩
      · unfold maxLen at t2; exact Nat.le_trans t1 (by omega)
      · show re < _; omega
      · show im < _; omega
      · exact b2
theorem choose_list {α : Type} {p : Nat → α → Prop} : ∀ (n : Nat), (∀ i, i < n → ∃ x, p i x) → ∃ l : List α, l.length = n ∧ ∀ i (h : i < l.length), p i l[i]
  | 0, _ => ⟨[], rfl, fun i h => absurd h (by simp)⟩
  | n + 1, h => by
    obtain ⟨l, hl, hp⟩ := choose_list n (fun i hi => h i (by omega))
    obtain ⟨x, hx⟩ := h n (by omega)
    refine ⟨l ++ [x], by simp [hl], fun i hi => ?_⟩
    by_cases hin : i < l.length
    · rw [List.getElem_append_left hin]; exact hp i hin
    · have : i = n := by simp at hi; omega
      subst this
      simp [hl, hx]
theorem alls_of {σ : Type} {P : σ → List Int → Prop} : ∀ (ps : List (TT σ)), (∀ p ∈ ps, p.all P) → TT.alls P ps
  | [], _ => trivial
  | p :: ps, h => ⟨h p (by simp), alls_of ps fun q hq => h q (by simp [hq])⟩
/-- A slice of parts that is read. -/
theorem open_parts (n : Nat) : ∀ (cs : List Value) (x : DataW H × List MemPlace), DataW.trod enc Tryd.prog W 0 (fun _ => true) true n 22 cs = some x → PartsOf W cs := by
  induction n using Nat.strongRecOn with
  | ind n ih =>
    intro cs x h
    rcases DataW.trod_slice Tryd.underlying22 h with ⟨rfl, _⟩ | ⟨a, len, cap, elems, rest, m, rfl, rfl, _, _, hl, hm, hel, hat, _, _⟩
    · exact ⟨⟨none, 0⟩, [], rfl, Nat.le_refl _, Nat.zero_le _, RdL.nil _ _ _, trivial⟩
    · have hnode : ∀ i, i < len → ∃ l : LT PS, (∀ j, j < 7 → W.cell? (a.add (i * 7 + j)) = (l.cells PS.enc)[j]?) ∧ l.Rd PS.enc W ∧ l.pure.all PS.fits := by
        intro i hi
        have h1 := hat i hi
        rw [cells_part, List.getElem?_eq_getElem (by omega)] at h1
        obtain ⟨cs', hc, ht⟩ := Option.bind_eq_some_iff.1 h1
        obtain ⟨_, hcl, hcat⟩ := World.cells?_some hc
        obtain ⟨l, rfl, hr, hfit⟩ := open_part ht (fun k hk => ih k (by omega))
        refine ⟨l, fun j hj => ?_, hr, hfit⟩
        rw [← hcat j hj, Go.Deep.add_add]
      obtain ⟨ls, hls, hp⟩ := choose_list len hnode
      have hlm : len ≤ 9223372036854775807 := by unfold maxLen at hm; omega
      refine ⟨⟨some a, cap⟩, ls, by rw [hls], by rw [hls]; exact hl, hm, ⟨?_, fun p hp' => ?_, by rw [hls]; exact hlm⟩, alls_of _ fun p hp' => ?_⟩
      · by_cases h0 : len = 0
        · obtain rfl : ls = [] := List.eq_nil_of_length_eq_zero (by omega)
          exact .inl rfl
        obtain ⟨ab, ao, spot⟩ := a
        have hc00 := (hp 0 (by omega)).1 0 (by omega)
        have hspot : spot = none := by
          have := World.cell?_spot (hc00.trans (List.getElem?_eq_getElem (by rw [LT.cells_length PS.enc5]; omega)))
          simpa [Addr.add] using this
        subst hspot
        rw [Addr.add_lit] at hc00
        refine .inr ⟨ab, ao, rfl, World.block_lt_of_cell? _ _ (hc00.trans (List.getElem?_eq_getElem (by rw [LT.cells_length PS.enc5]; omega))), fun i u hu => ?_⟩
        have hi : i < ls.length * 7 := by
          have := (List.getElem?_eq_some_iff.1 hu).1
          rwa [rowCells_length PS.enc5] at this
        have hd : i / 7 < ls.length := by omega
        have hc := (hp (i / 7) hd).1 (i % 7) (by omega)
        rw [Addr.add_lit] at hc
        have hg := rowCells_get PS.enc5 ls (i / 7) hd (i % 7) (by omega)
        rw [show i / 7 * 7 + i % 7 = i by omega] at hg hc
        rw [hc, ← hg]
        exact hu
      · obtain ⟨i, hi, rfl⟩ := List.getElem_of_mem hp'
        exact (hp i hi).2.1
      · rw [LT.pures_map] at hp'
        obtain ⟨q, hq, rfl⟩ := List.mem_map.1 hp'
        obtain ⟨i, hi, rfl⟩ := List.getElem_of_mem hq
        exact (hp i hi).2.2
end
end Go.Proofs.YtplfmpcoojkjlaaDoor
