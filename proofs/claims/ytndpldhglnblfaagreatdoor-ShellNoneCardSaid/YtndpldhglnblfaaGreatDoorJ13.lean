/- A closed fact of the row: the types' rows. -/
import Derived.Test.YtndpldhglnblfaaGreatDoorRows
import Derived.JoinedOf
namespace Go.Proofs.YtndpldhglnblfaaGreatDoor
open Go
theorem lo1 : (List.range Tryz.prog.types.size).all (rowFine Tryz.prog) = true := by kernel_rfl
theorem lo2 : Tryz.prog.globals.all (fun g => decide (g.type < Tryz.prog.types.size)) = true := by kernel_rfl
end Go.Proofs.YtndpldhglnblfaaGreatDoor
