/- A closed fact: no goroutine is started by what the law can come to. -/
import Derived.Test.YtndpldhglnblfaaGreatDoorJ0
import GoSem.ClaimGoes
namespace Go.Proofs.YtndpldhglnblfaaGreatDoor
open Go
theorem gf1 : ((Tryz.prog.closure 3).any fun g => (Tryz.prog.funcs[g]?).any Func.goes) = false := by
  rw [jcl]
  kernel_rfl
end Go.Proofs.YtndpldhglnblfaaGreatDoor
