/- The commands' map: its first region, whole. -/
import Derived.Test.YtndpldhglnblfaaGreatDoorS4
namespace Go.Proofs.YtndpldhglnblfaaGreatDoor
open Go.RowKit Go.Maps
theorem r1_size : R1.size = 101 := by kernel_rfl
theorem r1_before : ∀ (i : Nat) (o : Oper), R1[i]? = some o → ∀ e ∈ o.after, e.on < i := by
  have h : ((List.range 101).all fun i => ((R1[i]?).map fun o => o.after.toList.all fun e => decide (e.on < i)).getD true) = true := by kernel_rfl
  intro i o ho e he
  have hi : i < 101 := by
    have := (Array.getElem?_eq_some_iff.1 ho).1
    rwa [r1_size] at this
  have h1 := List.all_eq_true.1 h i (List.mem_range.2 hi)
  rw [ho] at h1
  have h2 := List.all_eq_true.1 h1 e (Array.mem_toList_iff.2 he)
  exact of_decide_eq_true h2
/-- The commands' map, as the first region leaves it. -/
structure Kmds (w0 w : World) (S M n : Nat) (D : DataW Value) : Prop where
  cm : CM w0 w M n D
  nb : n ≤ 101
  ky : ∀ kl, Maps.has D kl = true → ∃ p ∈ KV, kl = .string p.1
  kat : ∀ p ∈ KV, ∃ v, (∀ z, D.atKey (.string p.1) z = .held v) ∧ IsC w S p.2 v
theorem region1 {K : Exit → Act → World → Prop} {a0 : Act} {w0 : World} {S : Nat} (h0 : a0.tmps.size = 133) (hp : a0.eval (.tmp 0) = .pointer (some ⟨S, 0, none⟩))
    (hK : ∀ a w M n D, a.tmps.size = 133 → a.defers = a0.defers → (∀ j, (∀ p ∈ TB, p.1 ≠ some j) → a.eval (.tmp j) = a0.eval (.tmp j)) → a.eval (.tmp 3) = .map (some M) → Kmds w0 w S M n D → K .normal a w) :
    (Code.region 1 R1 true).wp Tryz.prog K a0 w0 := by
  refine wp_region_any (by kernel_rfl) ?_
  refine wpAny_inv (RI w0 S a0) r1_before (fun listed a w i o hI ho hl hd => ?_) (fun listed a w hI hall => ?_) R1.size _ a0 _ (by simp) ?_ ?_
  · have hi : i < 101 := by
      have := (Array.getElem?_eq_some_iff.1 ho).1
      rwa [r1_size] at this
    exact step hi ⟨hI, h0, hp, hl, ho, hd⟩
  · rw [r1_size] at hall
    obtain ⟨M, n, D, e8, hm⟩ := hI.mp (hall 0 (by omega))
    have e3 : a.eval (.tmp 3) = a.eval (.tmp 8) := hI.vals 100 3 .eq8 rfl (hall 100 (by omega))
    refine hK a w M n D (hI.sz.trans h0) hI.df hI.other (e3.trans e8) ⟨hm.cm, by have := hm.nb; omega, hm.ky, fun p hp => ?_⟩
    obtain ⟨k, hk⟩ := List.mem_iff_getElem?.1 hp
    have hk17 : k < 17 := (List.getElem?_eq_some_iff.1 hk).1
    have hj : IX[k]? = some IX[k] := List.getElem?_eq_getElem (by exact hk17)
    refine hm.kat k p _ hk hj (hall _ ?_)
    have : ∀ j ∈ IX, j < 101 := by decide
    exact this _ (List.getElem_mem _)
  · unfold leftOver
    refine Nat.le_trans List.countP_le_length ?_
    simp
  · have hf : ∀ i, (Array.replicate R1.size false).getD i false = false := by
      intro i
      rw [Array.getD_eq_getD_getElem?, Array.getElem?_replicate]
      split <;> rfl
    refine ⟨rfl, rfl, by simp [r1_size], fun _ _ => rfl, ⟨rfl, rfl, rfl, Nat.le_refl _, fun _ _ => rfl⟩, fun i d sp _ h => ?_, fun i d _ h => ?_, fun i _ h => ?_, fun h => ?_⟩
    all_goals
      rw [hf] at h
      cases h
end Go.Proofs.YtndpldhglnblfaaGreatDoor
