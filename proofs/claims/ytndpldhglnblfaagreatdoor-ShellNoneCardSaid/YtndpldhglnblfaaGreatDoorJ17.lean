/- Closed facts of the card. -/
import Derived.Test.YtndpldhglnblfaaGreatDoorCards
import Derived.Test.YtndpldhglnblfaaGreatDoorJ2
import Derived.Test.YtndpldhglnblfaaGreatDoorJ14
import Derived.Test.YtndpldhglnblfaaGreatDoorJ15
import Derived.Test.YtndpldhglnblfaaGreatDoorJ16
import Derived.SevenTiedAt
namespace Go.Proofs.YtndpldhglnblfaaGreatDoor
open Go
theorem cf1 : Rows.shellNoneRow.wfByText (OpenSpec.ofChange Rows.shellNoneSpec) = true := by kernel_rfl
theorem cf2 : Tryz.pinned.checked.prog.mainIs = some (Rows.shellNoneCard.stood.harness.1, Rows.shellNoneCard.stood.harness.2.toList) := by kernel_rfl
theorem cf3 : true = Tryz.prog.looks [] := by kernel_rfl
theorem cf4 : false = Rows.shellNoneRow.goesBy Tryz.prog := by
  unfold OpenClaim.goesBy Program.goesAt Program.goesFrom
  show false = ((Tryz.prog.funcNamed "haulage/haulagelaw32.ShellNone").any Tryz.prog.goes || false)
  rw [rf2, Option.any_some, Bool.or_false]
  unfold Program.goes
  rw [gf1, jun, gf2]
  rfl
end Go.Proofs.YtndpldhglnblfaaGreatDoor
