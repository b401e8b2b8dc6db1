/- A fact of the tie: the other words are not there. -/
import Derived.Test.YtndpldhglnblfaaGreatDoorRows
import Derived.LaidByTextLater
import Derived.SevenTiedAt
namespace Go.Proofs.YtndpldhglnblfaaGreatDoor
open Go
theorem tf2 : Tryz.prog.worded (varsWordLater !true) = false := by kernel_rfl
end Go.Proofs.YtndpldhglnblfaaGreatDoor
