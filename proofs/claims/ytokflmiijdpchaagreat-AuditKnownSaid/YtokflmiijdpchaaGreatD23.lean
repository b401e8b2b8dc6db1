/- A range over a function, of whatever functions: the loop's record is the caller's to look after. -/
import Derived.Test.YtokflmiijdpchaaGreatD22
import Derived.RangeFuncNested
import Derived.RangeFuncBound
import Derived.RangeFuncCalls
import Derived.RangeFuncLeaves
import Derived.Shelf.Abstract
import Derived.Shelf.RegionOpen
import Derived.OwnWalkIn
import Derived.TacticsInMore
import Derived.LoopNIn
import Derived.LoopIn
namespace Go.Proofs.YtokflmiijdpchaaGreat
open Go.RowKit
def LRec (fn D : Nat) (tmps : Array Value) (ps : Array Tmp) (assign body : Code) : Loop := { state := .ready, pending := none, fn, tmps, params := ps, assign, body, defers := D }
theorem wp_rangeFunc_wide {P : Program} {g : Operand} {ps : Array Tmp} {assign body : Code} {Q : Exit → Act → World → Prop} {a : Act} {w : World} {gf : Nat} {lb : Array Value} (hg : a.eval g = .func (.func gf) #[] lb) (eg : ∀ args w, (callFunc gf args).run P w = .ok (.enter gf args) w)
    (h : ∀ fn, Calls P gf (#[.func (.yield (w.heap.size + 1)) #[] #[]] ++ lb) ((w.alloc (.deferred (some []))).alloc (.loop (LRec fn w.heap.size a.tmps ps assign body))) fun e W => (∃ v, e = .returned v) ∧ W.heap[w.heap.size + 1]? = some (.loop (LRec fn w.heap.size a.tmps ps assign body)) ∧ Q .normal { a with defers := { target := .collected w.heap.size, args := #[] } :: a.defers } (W.putObj (w.heap.size + 1) (.loop { LRec fn w.heap.size a.tmps ps assign body with state := .exhausted }))) :
    (Code.rangeFunc g ps assign body).wp P Q a w := by
  refine (wpIn_wide (n := 9)).1 (wpIn_rangeFunc fun fn _ => ?_)
  refine ⟨w.heap.size + 1, [{ target := .collected w.heap.size, args := #[] }], (w.alloc (.deferred (some []))).alloc (.loop (LRec fn w.heap.size a.tmps ps assign body)), { target := .fn (.func gf) lb, args := #[.func (.yield (w.heap.size + 1)) #[] #[]] }, (w.alloc (.deferred (some []))).alloc (.loop (LRec fn w.heap.size a.tmps ps assign body)), gf, #[.func (.yield (w.heap.size + 1)) #[] #[]] ++ lb, (w.alloc (.deferred (some []))).alloc (.loop (LRec fn w.heap.size a.tmps ps assign body)), run_enterLoop_outer _ _ _ _ _, ?_, fun _ _ => trivial, ?_, fun h => by simp [Fence.wide] at h, ?_⟩
  · simp only [resolve, hg]
    simp [go_sem]
  · simp [invoke, go_sem, eg]
  · refine callsIn_wide.2 ((h fn).mono ?_)
    rintro e W ⟨⟨v, rfl⟩, hl, hq⟩
    exact ⟨none, _, run_endLoop hl (by simp [LRec]), hq⟩
theorem yield_at {P : Program} {l m fn D : Nat} {tmps : Array Value} {ps : Array Tmp} {assign body : Code} {W : World} {args : Array Value} {R : World → Prop} (hl : W.heap[l]? = some (.loop (LRec fn D tmps ps assign body))) (hs : args.size = ps.size)
    (h : assign.wpIn (Fence.wide.inRound l) m P (Exit.then (fun a₁ w₁ => w₁.heap[l]? = some (.loop (LRec fn D tmps ps assign body)) ∧ body.wpIn (Fence.wide.inRound l) m P (fun e _ w₃ => e = .normal ∧ w₃.heap[l]? = some (.loop { LRec fn D tmps ps assign body with state := .busy }) ∧ R (w₃.putObj l (.loop (LRec fn D tmps ps assign body)))) a₁ (w₁.putObj l (.loop { LRec fn D tmps ps assign body with state := .busy }))) (fun _ _ _ => False)) { tmps := (ps.zip args).foldl (fun tmps (t, a) => tmps.setIfInBounds t a) tmps, defers := [] } W) :
    YieldAt Fence.wide m P l args W fun e W' => e = .returned (.bool true) ∧ R W' := by
  refine ⟨_, _, _, _, run_yield hl hs, roundIn_of_wpIn trivial (wpIn_mono h ?_)⟩
  intro e a1 w1 h1
  cases e with
  | normal =>
    obtain ⟨h2, h3⟩ := h1
    refine ⟨_, run_beginRound h2 rfl, wpIn_mono h3 ?_⟩
    rintro e a3 w3 ⟨rfl, h4, h5⟩
    exact ⟨_, _, run_endRound none h4, rfl, h5⟩
  | exit id => exact h1.elim
  | goto t => exact h1.elim
  | ret => exact h1.elim
  | panic c => exact h1.elim
  | outgrown => exact h1.elim
end Go.Proofs.YtokflmiijdpchaaGreat
