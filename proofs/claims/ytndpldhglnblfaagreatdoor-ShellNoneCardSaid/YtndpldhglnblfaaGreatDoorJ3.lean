/- A closed fact of the row: does it recurse. -/
import Derived.Test.YtndpldhglnblfaaGreatDoorRows
import Derived.Test.YtndpldhglnblfaaGreatDoorJ2
import Derived.JoinedOf
namespace Go.Proofs.YtndpldhglnblfaaGreatDoor
open Go
theorem jf12 : (Rows.shellNoneRow.recurses == Tryz.prog.recurses 3) = true := by
  unfold Program.recurses
  rw [jun]
  kernel_rfl
end Go.Proofs.YtndpldhglnblfaaGreatDoor
