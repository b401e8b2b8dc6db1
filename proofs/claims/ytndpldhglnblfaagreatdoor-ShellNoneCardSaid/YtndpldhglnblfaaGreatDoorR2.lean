/- The row of ShellNone. -/
import Derived.Test.YtndpldhglnblfaaGreatDoorR1
import Derived.Test.YtndpldhglnblfaaGreatDoorJ12
import Derived.Test.YtndpldhglnblfaaGreatDoorJ14
namespace Go.Proofs.YtndpldhglnblfaaGreatDoor.shellNone
open Go.ChangeShapes Go.WideShapes Go.ChangeAt Go.RowKit Go.Proofs.YtndpldhglnblfaaGreatDoor
theorem over : Rows.shellNoneRow.holds Tryz.pinned (OpenSpec.ofChange Rows.shellNoneSpec) :=
  OpenClaim.holds_of_wide 3 Tryz.f3 rfl rfl rfl rfl rfl rfl rfl ⟨rfl, rfl, rfl, rfl, rfl⟩ rfl rfl rfl rfl rfl rf2 Tryz.func3 joined rf3 rf4
    (fun os started H enc _ => lifted os started H enc)
end Go.Proofs.YtndpldhglnblfaaGreatDoor.shellNone
