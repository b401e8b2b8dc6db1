/- A closed fact of the row: the functions' parameters. -/
import Derived.Test.YtndpldhglnblfaaGreatDoorRows
import Derived.JoinedOf
namespace Go.Proofs.YtndpldhglnblfaaGreatDoor
open Go
theorem lo3 : Tryz.prog.funcs.all (fun f => f.params.all fun t => decide (t < Tryz.prog.types.size)) = true := by kernel_rfl
end Go.Proofs.YtndpldhglnblfaaGreatDoor
