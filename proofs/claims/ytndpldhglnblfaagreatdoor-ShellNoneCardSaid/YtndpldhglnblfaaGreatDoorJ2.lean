/- A closed fact of the row: a call that is not followed. -/
import Derived.Test.YtndpldhglnblfaaGreatDoorRows
import Derived.Test.YtndpldhglnblfaaGreatDoorJ0
import Derived.JoinedOf
namespace Go.Proofs.YtndpldhglnblfaaGreatDoor
open Go
theorem jun : Tryz.prog.unfollowed 3 = true := by
  unfold Program.unfollowed
  rw [jcl]
  kernel_rfl
theorem jf11 : (Rows.shellNoneRow.unfollowed == Tryz.prog.unfollowed 3) = true := by
  rw [jun]
  kernel_rfl
end Go.Proofs.YtndpldhglnblfaaGreatDoor
