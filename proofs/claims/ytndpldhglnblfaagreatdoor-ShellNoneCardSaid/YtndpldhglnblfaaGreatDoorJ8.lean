/- Closed facts of the row, one that wants much memory. -/
import Derived.Test.YtndpldhglnblfaaGreatDoorRows
import Derived.JoinedOf
namespace Go.Proofs.YtndpldhglnblfaaGreatDoor
open Go
theorem jf26 : Tryz.prog.mayEnter = true := by kernel_rfl
end Go.Proofs.YtndpldhglnblfaaGreatDoor
