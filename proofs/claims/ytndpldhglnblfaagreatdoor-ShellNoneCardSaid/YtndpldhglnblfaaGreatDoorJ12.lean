/- The row's closed facts together. -/
import Derived.Test.YtndpldhglnblfaaGreatDoorJ1
import Derived.Test.YtndpldhglnblfaaGreatDoorJ2
import Derived.Test.YtndpldhglnblfaaGreatDoorJ3
import Derived.Test.YtndpldhglnblfaaGreatDoorJ4
import Derived.Test.YtndpldhglnblfaaGreatDoorJ5
import Derived.Test.YtndpldhglnblfaaGreatDoorJ13
import Derived.Test.YtndpldhglnblfaaGreatDoorJ6
import Derived.Test.YtndpldhglnblfaaGreatDoorJ7
import Derived.Test.YtndpldhglnblfaaGreatDoorJ8
import Derived.Test.YtndpldhglnblfaaGreatDoorJ11
namespace Go.Proofs.YtndpldhglnblfaaGreatDoor
open Go
theorem and_mk {a b : Bool} (h : a = true) (k : b = true) : (a && b) = true := by
  rw [h, k]
  rfl
theorem jf2 : laidOutB Tryz.prog = true := by
  unfold laidOutB
  exact and_mk (and_mk lo1 lo2) lo3
set_option maxRecDepth 100000 in
theorem joined : joinedFacts Tryz.prog 3 Tryz.f3 Rows.shellNoneSpec Rows.shellNoneRow = true := by
  unfold joinedFacts
  exact (and_mk (and_mk (and_mk (and_mk (and_mk (and_mk (and_mk (and_mk (and_mk (and_mk (and_mk (and_mk (and_mk (and_mk (and_mk (and_mk (and_mk (and_mk (and_mk (and_mk (and_mk (and_mk (and_mk (and_mk (and_mk (and_mk (and_mk (and_mk (and_mk (and_mk (and_mk jf1 jf2) jf3) jf4) jf5) jf6) jf7) jf8) jf9) jf10) jf11) jf12) jf13) jf14) jf15) jf16) jf17) jf18) jf19) jf20) jf21) jf22) jf23) jf24) jf25) jf26) jf27) jf28) jf29) jf30) jf31) jf32)
end Go.Proofs.YtndpldhglnblfaaGreatDoor
