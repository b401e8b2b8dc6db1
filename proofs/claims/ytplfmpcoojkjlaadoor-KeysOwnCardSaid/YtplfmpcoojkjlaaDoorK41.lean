/- A value of the program's as the document's. No program here. -/
import Derived.Test.YtplfmpcoojkjlaaDoorK40
namespace Go.Proofs.YtplfmpcoojkjlaaDoor
open Go.RowKit
/-- What the program looks at in a value: Real of a real number, Point of a point. -/
def VS.ps (s : VS) : PS := ⟨s.kind, s.b, s.n, if s.kind = 4 then s.real else s.re, s.im⟩
def VS.fit (s : VS) (t : List Int) : Prop := s.real < 18446744073709551616 ∧ s.re < 18446744073709551616 ∧ s.im < 18446744073709551616 ∧ Byt t ∧ -9223372036854775808 ≤ s.n ∧ s.n ≤ 9223372036854775807
theorem VS.ps_all (s : PS) : s.all.ps = s := by
  obtain ⟨k, b, n, re, im⟩ := s
  unfold PS.all VS.ps
  by_cases h : k = 4
  · simp only [if_pos h]
  · simp only [if_neg h]
theorem VS.ps_fits (s : VS) (t : List Int) (h : s.fit t) : s.ps.fits t := by
  unfold VS.fit at h
  unfold PS.fits PS.fit VS.ps
  dsimp only
  split
  · exact ⟨⟨h.1, h.2.2.1, h.2.2.2.1⟩, h.2.2.2.2⟩
  · exact ⟨⟨h.2.1, h.2.2.1, h.2.2.2.1⟩, h.2.2.2.2⟩
theorem PS.all_fit (s : PS) (t : List Int) (h : s.fits t) : s.all.fit t := ⟨h.1.1, h.1.1, h.1.2.1, h.1.2.2, h.2⟩
theorem PS.ans_fit (s : PS) (t : List Int) (h : s.fits t) : s.ans.fit t := by
  unfold VS.fit PS.ans
  dsimp only
  refine ⟨?_, ?_, ?_, h.1.2.2, h.2⟩
  · split
    · exact h.1.1
    · omega
  · split
    · exact h.1.1
    · omega
  · split
    · exact h.1.2.1
    · omega
mutual
theorem TT.map_all {σ τ : Type} {P : σ → List Int → Prop} {Q : τ → List Int → Prop} (f : σ → τ) (h : ∀ s t, P s t → Q (f s) t) : ∀ (p : TT σ), p.all P → (p.map f).all Q
  | .mk s t ps, k => ⟨h s t k.1, TT.maps_all f h ps k.2⟩
theorem TT.maps_all {σ τ : Type} {P : σ → List Int → Prop} {Q : τ → List Int → Prop} (f : σ → τ) (h : ∀ s t, P s t → Q (f s) t) : ∀ (ps : List (TT σ)), TT.alls P ps → TT.alls Q (TT.maps f ps)
  | [], _ => trivial
  | p :: ps, k => ⟨TT.map_all f h p k.1, TT.maps_all f h ps k.2⟩
end
mutual
theorem TT.map_map {σ τ υ : Type} (f : σ → τ) (g : τ → υ) : ∀ (p : TT σ), (p.map f).map g = p.map (fun s => g (f s))
  | .mk s t ps => by simp only [TT.map, TT.maps_maps f g ps]
theorem TT.maps_maps {σ τ υ : Type} (f : σ → τ) (g : τ → υ) : ∀ (ps : List (TT σ)), TT.maps g (TT.maps f ps) = TT.maps (fun s => g (f s)) ps
  | [] => rfl
  | p :: ps => by simp only [TT.maps, TT.map_map f g p, TT.maps_maps f g ps]
end
mutual
theorem TT.map_id' {σ : Type} (f : σ → σ) (h : ∀ s, f s = s) : ∀ (p : TT σ), p.map f = p
  | .mk s t ps => by simp only [TT.map, TT.maps_id' f h ps, h s]
theorem TT.maps_id' {σ : Type} (f : σ → σ) (h : ∀ s, f s = s) : ∀ (ps : List (TT σ)), TT.maps f ps = ps
  | [] => rfl
  | p :: ps => by simp only [TT.maps, TT.map_id' f h p, TT.maps_id' f h ps]
end
theorem maps_ps_all (ps : List (TT PS)) : TT.maps VS.ps (TT.maps PS.all ps) = ps := by
  rw [TT.maps_maps]
  exact TT.maps_id' _ VS.ps_all ps
end Go.Proofs.YtplfmpcoojkjlaaDoor
