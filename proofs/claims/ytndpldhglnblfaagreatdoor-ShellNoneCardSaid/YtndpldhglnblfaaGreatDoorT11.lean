/- A fact of the tie: the pinned table. -/
import Derived.Test.YtndpldhglnblfaaGreatDoorRows
import Derived.LaidByTextLater
import Derived.SevenTiedAt
namespace Go.Proofs.YtndpldhglnblfaaGreatDoor
open Go
theorem tf11 : Tryz.pinned.checked.prog.pinnedFits "unicode/utf8.first" = true := by kernel_rfl
end Go.Proofs.YtndpldhglnblfaaGreatDoor
