/- The tie, out of its facts. -/
import Derived.Test.YtndpldhglnblfaaGreatDoorT1
import Derived.Test.YtndpldhglnblfaaGreatDoorT2
import Derived.Test.YtndpldhglnblfaaGreatDoorT3
import Derived.Test.YtndpldhglnblfaaGreatDoorT13
import Derived.Test.YtndpldhglnblfaaGreatDoorT5
import Derived.Test.YtndpldhglnblfaaGreatDoorT6
import Derived.Test.YtndpldhglnblfaaGreatDoorT7
import Derived.Test.YtndpldhglnblfaaGreatDoorT8
import Derived.Test.YtndpldhglnblfaaGreatDoorT9
import Derived.Test.YtndpldhglnblfaaGreatDoorT11
namespace Go.Proofs.YtndpldhglnblfaaGreatDoor
open Go
theorem tie1 : Tryz.prog.laidByTextLater [("internal/strconv.uint64pow10", Rows.laid_internal_strconv_uint64pow10), ("math/bits.deBruijn32tab", Rows.laid_math_bits_deBruijn32tab), ("math/bits.deBruijn64tab", Rows.laid_math_bits_deBruijn64tab), ("unicode/utf8.acceptRanges", Rows.laid_unicode_utf8_acceptRanges)] [.data, .data, .data, .data] true :=
  Program.laidByTextLater_by_run 400 8 tf1 tf2 tf3 tf4 tf5 tf6 tf7 tf8 tf9 (by kernel_rfl)
theorem row_tie1 : Rows.shellNoneRow.laidByTextAt .later Tryz.pinned [.data, .data, .data, .pinned, .data] true :=
  OpenClaim.laidByTextAt_pinned rfl rfl tie1 rfl rfl rfl rfl (fun y hy _e => by
    simp only [Rows.shellNoneRow, List.zip_cons_cons, List.zip_nil_right, List.mem_cons, List.mem_nil_iff, or_false] at hy
    rcases hy with rfl | rfl | rfl | rfl | rfl
    · cases _e
    · cases _e
    · cases _e
    · exact ⟨tf11, by kernel_rfl⟩
    · cases _e) tf13
end Go.Proofs.YtndpldhglnblfaaGreatDoor
