/- A fact of the tie: the root's words. -/
import Derived.Test.YtndpldhglnblfaaGreatDoorRows
import Derived.LaidByTextLater
import Derived.SevenTiedAt
namespace Go.Proofs.YtndpldhglnblfaaGreatDoor
open Go
theorem tf3 : Tryz.prog.worded rootWordLater = true := by kernel_rfl
end Go.Proofs.YtndpldhglnblfaaGreatDoor
