/- ShellNone: nil shells, lines and texts that are too long, and lines that say nothing, answer as the law says: the tied card, of the closed law. -/
import Derived.Test.YtndpldhglnblfaaGreatDoorR2
import Derived.Test.YtndpldhglnblfaaGreatDoorJ17
namespace Go.Proofs.YtndpldhglnblfaaGreatDoor.shellNone
open Go.ChangeShapes Go.WideShapes Go.ChangeAt Go.RowKit Go.Proofs.YtndpldhglnblfaaGreatDoor
theorem proved : Rows.ShellNoneCardSaid :=
  Claim7.holds_tied_plain_at .later [] [.data, .data, .data, .pinned, .data] true Rows.shellNoneCard.stood.harness true over (fun _ h => by cases h) cf1 (fun _ h => by cases h) row_tie1 rfl ⟨rfl, rfl⟩ cf2 rfl
    (fun f fn hf hfn => by
      obtain rfl : f = 3 := Option.some.inj (rf2.symm.trans hf) |>.symm
      obtain rfl : fn = Tryz.f3 := (Option.some.inj (Tryz.func3.symm.trans hfn)).symm
      exact ⟨cf3, fun j t ht => by
        rw [Tryz.params3] at ht
        simp at ht⟩)
    cf4
end Go.Proofs.YtndpldhglnblfaaGreatDoor.shellNone
