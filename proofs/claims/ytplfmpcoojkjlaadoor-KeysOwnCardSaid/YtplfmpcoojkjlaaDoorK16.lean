/- What a row costs; its first fault; which of two rows comes first. No program here. -/
import Derived.Test.YtplfmpcoojkjlaaDoorK0
namespace Go.Proofs.YtplfmpcoojkjlaaDoor
open Go.RowKit
section
variable {σ τ : Type}
mutual
/-- A node's weight: 1, a 64th of its text, its parts'. -/
def TT.wt : TT σ → Nat
  | .mk _ t ps => 1 + t.length / 64 + TT.wts ps
def TT.wts : List (TT σ) → Nat
  | [] => 0
  | p :: ps => p.wt + TT.wts ps
end
mutual
/-- What is left when a node's weight is taken off, -1 if that is nothing. -/
def TT.cost : TT σ → Int → Int
  | .mk _ t ps, left => if left - 1 - ((t.length / 64 : Nat) : Int) < 0 then -1 else if left - 1 - ((t.length / 64 : Nat) : Int) < (ps.length : Int) then -1 else TT.costs ps (left - 1 - ((t.length / 64 : Nat) : Int))
def TT.costs : List (TT σ) → Int → Int
  | [], left => left
  | p :: ps, left => if p.cost left < 0 then -1 else TT.costs ps (p.cost left)
end
def TT.counts (ps : List (TT σ)) (left : Int) : Int := if left < (ps.length : Int) then -1 else TT.costs ps left
theorem TT.cost_mk (s : σ) (t : List Int) (ps : List (TT σ)) (left : Int) : (TT.mk s t ps).cost left = if left - 1 - ((t.length / 64 : Nat) : Int) < 0 then -1 else TT.counts ps (left - 1 - ((t.length / 64 : Nat) : Int)) := by
  simp only [TT.cost, TT.counts]
mutual
theorem TT.cost_wt : ∀ (p : TT σ) (left : Int), -1 ≤ left → -1 ≤ p.cost left ∧ p.cost left ≤ left ∧ (0 ≤ p.cost left → (p.wt : Int) + p.cost left = left)
  | .mk s t ps, left, h => by
    simp only [TT.cost, TT.wt]
    split
    · exact ⟨by omega, by omega, by omega⟩
    · split
      · exact ⟨by omega, by omega, by omega⟩
      · have ih := TT.costs_wt ps (left - 1 - ((t.length / 64 : Nat) : Int)) (by omega)
        refine ⟨ih.1, by omega, fun h2 => ?_⟩
        have := ih.2.2 h2
        push_cast at *
        omega
theorem TT.costs_wt : ∀ (ps : List (TT σ)) (left : Int), -1 ≤ left → -1 ≤ TT.costs ps left ∧ TT.costs ps left ≤ left ∧ (0 ≤ TT.costs ps left → (TT.wts ps : Int) + TT.costs ps left = left)
  | [], left, h => by simp [TT.costs, TT.wts, h]
  | p :: ps, left, h => by
    have ih1 := TT.cost_wt p left h
    simp only [TT.costs, TT.wts]
    split
    · exact ⟨by omega, by omega, by omega⟩
    · have ih := TT.costs_wt ps (p.cost left) (by omega)
      refine ⟨ih.1, by omega, fun h2 => ?_⟩
      have := ih.2.2 h2
      push_cast
      omega
end
theorem TT.counts_wt (ps : List (TT σ)) (left : Int) (h : -1 ≤ left) : -1 ≤ TT.counts ps left ∧ TT.counts ps left ≤ left ∧ (0 ≤ TT.counts ps left → (TT.wts ps : Int) + TT.counts ps left = left) := by
  unfold TT.counts
  split
  · exact ⟨by omega, by omega, by omega⟩
  · exact TT.costs_wt ps left h
theorem TT.wt_mem {p : TT σ} {ps : List (TT σ)} (h : p ∈ ps) : p.wt ≤ TT.wts ps := by
  induction ps with
  | nil => cases h
  | cons q ps ih =>
    simp only [TT.wts]
    rcases List.mem_cons.1 h with rfl | h
    · omega
    · have := ih h; omega
theorem TT.wt_pos (p : TT σ) : 0 < p.wt := by cases p; simp only [TT.wt]; omega
theorem TT.wts_len (ps : List (TT σ)) : ps.length ≤ TT.wts ps := by
  induction ps with
  | nil => simp [TT.wts]
  | cons q ps ih => have := TT.wt_pos q; simp only [TT.wts, List.length_cons]; omega
theorem TT.wt_parts (p : TT σ) : TT.wts p.parts + p.text.length / 64 < p.wt := by cases p; simp only [TT.wt, TT.parts, TT.text]; omega
end
theorem rd_cell7 {w : World} {b o i : Nat} {cs : List Value} {v : Value} (j : Nat) (hc : ∀ j u, j < 7 → cs[j]? = some u → w.cell? ⟨b, o + (i * 7 + j), none⟩ = some u) (hj : j < 7) (hv : cs[j]? = some v) : w.cell? ⟨b, o + i * 7 + j, none⟩ = some v := by
  rw [Nat.add_assoc]; exact hc j v hj hv
theorem LT.pures_drop {σ : Type} (ls : List (LT σ)) (k : Nat) : LT.pures (ls.drop k) = (LT.pures ls).drop k := by simp [LT.pures_map]
theorem drop_cons {α : Type} {l : List α} {k : Nat} (h : k < l.length) : l.drop k = l[k] :: l.drop (k + 1) := List.drop_eq_getElem_cons h
end Go.Proofs.YtplfmpcoojkjlaaDoor
