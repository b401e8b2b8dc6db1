/- A fact of the tie: the kinds. A fact of the tie: no door of its own. A fact of the tie: the list fits. -/
import Derived.Test.YtndpldhglnblfaaGreatDoorRows
import Derived.LaidByTextLater
import Derived.SevenTiedAt
namespace Go.Proofs.YtndpldhglnblfaaGreatDoor
open Go
theorem tf4 : ([("internal/strconv.uint64pow10", Rows.laid_internal_strconv_uint64pow10), ("math/bits.deBruijn32tab", Rows.laid_math_bits_deBruijn32tab), ("math/bits.deBruijn64tab", Rows.laid_math_bits_deBruijn64tab), ("unicode/utf8.acceptRanges", Rows.laid_unicode_utf8_acceptRanges)] : List (String × DataW Unit)).map (fun x => Tryz.prog.kindOfLater x.1) = [LaidKind.data, .data, .data, .data].map some := by kernel_rfl
end Go.Proofs.YtndpldhglnblfaaGreatDoor
namespace Go.Proofs.YtndpldhglnblfaaGreatDoor
open Go
theorem tf12 : Tryz.pinned.checked.prog.headLifts.contains "ownunsafe" = false := by kernel_rfl
end Go.Proofs.YtndpldhglnblfaaGreatDoor
namespace Go.Proofs.YtndpldhglnblfaaGreatDoor
open Go
theorem tf13 : Tryz.pinned.checked.prog.listedFits [("internal/strconv.uint64pow10", Rows.laid_internal_strconv_uint64pow10), ("math/bits.deBruijn32tab", Rows.laid_math_bits_deBruijn32tab), ("math/bits.deBruijn64tab", Rows.laid_math_bits_deBruijn64tab), ("unicode/utf8.first", Rows.laid_unicode_utf8_first), ("unicode/utf8.acceptRanges", Rows.laid_unicode_utf8_acceptRanges)] = true := by
  unfold Program.listedFits
  rw [tf12]
  kernel_rfl
end Go.Proofs.YtndpldhglnblfaaGreatDoor
