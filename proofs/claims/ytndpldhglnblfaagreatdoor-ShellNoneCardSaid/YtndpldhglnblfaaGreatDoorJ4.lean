/- A closed fact of the row, over the functions that the law can come to. -/
import Derived.Test.YtndpldhglnblfaaGreatDoorRows
import Derived.Test.YtndpldhglnblfaaGreatDoorJ0
import Derived.JoinedOf
namespace Go.Proofs.YtndpldhglnblfaaGreatDoor
open Go
theorem jf13 : (Rows.shellNoneRow.named == Tryz.prog.varsNamed 3) = true := by
  unfold Program.varsNamed
  rw [jcl]
  kernel_rfl
end Go.Proofs.YtndpldhglnblfaaGreatDoor
