/- A closed fact: no function of the program starts a goroutine. -/
import Derived.Test.YtndpldhglnblfaaGreatDoorRows
import GoSem.ClaimGoes
namespace Go.Proofs.YtndpldhglnblfaaGreatDoor
open Go
theorem gf2 : Tryz.prog.funcs.any Func.goes = false := by kernel_rfl
end Go.Proofs.YtndpldhglnblfaaGreatDoor
