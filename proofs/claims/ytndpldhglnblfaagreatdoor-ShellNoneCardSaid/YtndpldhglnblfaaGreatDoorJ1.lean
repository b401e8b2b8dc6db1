/- A closed fact of the row, over the functions that the law can come to. -/
import Derived.Test.YtndpldhglnblfaaGreatDoorRows
import Derived.Test.YtndpldhglnblfaaGreatDoorJ0
import Derived.JoinedOf
namespace Go.Proofs.YtndpldhglnblfaaGreatDoor
open Go
theorem jf10 : (Rows.shellNoneRow.inPlace == Tryz.prog.inPlace 3) = true := by
  unfold Program.inPlace
  rw [jcl]
  kernel_rfl
end Go.Proofs.YtndpldhglnblfaaGreatDoor
