/- Closed facts: the law's function by its name, no instance, no wrapper. -/
import Derived.Test.YtndpldhglnblfaaGreatDoorRows
import Derived.JoinedOf
namespace Go.Proofs.YtndpldhglnblfaaGreatDoor
open Go
theorem rf2 : Tryz.prog.funcNamed "haulage/haulagelaw32.ShellNone" = some 3 := by kernel_rfl
theorem rf3 : Tryz.f3.isInstance Tryz.prog Rows.shellNoneRow.origin Rows.shellNoneRow.targs := of_decide_eq_true (by kernel_rfl)
theorem rf4 : Tryz.f3.isWrapper Tryz.prog Rows.shellNoneRow.wrapper Rows.shellNoneRow.mainSum := by unfold Func.isWrapper; first | (rw [if_pos (by decide +kernel)]; kernel_rfl) | (rw [if_neg (by decide +kernel)]; exact ⟨rfl, rfl⟩)
end Go.Proofs.YtndpldhglnblfaaGreatDoor
