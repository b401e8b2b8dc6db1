/- Closed facts of the row, one that wants much memory. Closed facts of the row, one that wants much memory. Closed facts of the row. -/
import Derived.Test.YtndpldhglnblfaaGreatDoorRows
import Derived.JoinedOf
namespace Go.Proofs.YtndpldhglnblfaaGreatDoor
open Go
theorem jf27 : (Rows.shellNoneRow.lifted == Tryz.prog.liftsFinal) = true := by kernel_rfl
end Go.Proofs.YtndpldhglnblfaaGreatDoor
namespace Go.Proofs.YtndpldhglnblfaaGreatDoor
open Go
theorem jf28 : (Tryz.prog.make == some Rows.shellNoneRow.make) = true := by kernel_rfl
end Go.Proofs.YtndpldhglnblfaaGreatDoor
namespace Go.Proofs.YtndpldhglnblfaaGreatDoor
open Go
theorem jf1 : Rows.shellNoneRow.wf (OpenSpec.ofChange Rows.shellNoneSpec) = true := by kernel_rfl
theorem jf4 : Tryz.f3.params.all (Tryz.prog.readableRec ·) = true := by kernel_rfl
theorem jf5 : namedTie Tryz.prog Rows.shellNoneRow.named Rows.shellNoneSpec.vars = true := by kernel_rfl
theorem jf6 : (Rows.shellNoneRow.stops == []) = true := by kernel_rfl
theorem jf7 : (Tryz.prog.stops == []) = true := by kernel_rfl
theorem jf8 : (Rows.shellNoneRow.knobs == []) = true := by kernel_rfl
theorem jf9 : (Tryz.prog.stopKnobs == []) = true := by kernel_rfl
theorem jf14 : (Rows.shellNoneRow.maps == (Tryz.f3.params.toList ++ Rows.shellNoneSpec.plain.varTypes Tryz.prog).any (Tryz.prog.mapsRec ·)) = true := by kernel_rfl
theorem jf15 : (Rows.shellNoneRow.ifaces == (Tryz.f3.params.toList ++ Rows.shellNoneSpec.plain.varTypes Tryz.prog).any (Tryz.prog.ifacesRec ·)) = true := by kernel_rfl
theorem jf16 : (Rows.shellNoneRow.mapsOut == Tryz.prog.mapsAmong Tryz.f3.resultTypes.toList) = true := by kernel_rfl
theorem jf17 : (Rows.shellNoneRow.loops == (Tryz.f3.params.toList ++ Rows.shellNoneSpec.plain.varTypes Tryz.prog).any (Tryz.prog.loopsFrom ·)) = true := by kernel_rfl
theorem jf18 : (Rows.shellNoneRow.wideKeys == (Tryz.f3.params.toList ++ Rows.shellNoneSpec.plain.varTypes Tryz.prog ++ Tryz.f3.resultTypes.toList).any (Tryz.prog.wideKeysFrom ·)) = true := by kernel_rfl
theorem jf19 : Rows.shellNoneSpec.vars.all (Tryz.prog.varReadable ·) = true := by kernel_rfl
theorem jf20 : Tryz.f3.resultTypes.all (fun t => Tryz.prog.readableRec t && decide (t < Tryz.prog.types.size)) = true := by kernel_rfl
theorem jf21 : (Rows.shellNoneRow.ifacesOut == Tryz.f3.resultTypes.toList.any (Tryz.prog.ifacesRec ·)) = true := by kernel_rfl
theorem jf22 : (Rows.shellNoneRow.loopsOut == Tryz.f3.resultTypes.toList.any (Tryz.prog.loopsFrom ·)) = true := by kernel_rfl
theorem jf23 : (Rows.shellNoneRow.plainKeys == Tryz.prog.plainKeys) = true := by kernel_rfl
theorem jf24 : Rows.shellNoneRow.shortTexts.isNone = true := by kernel_rfl
theorem jf29 : (Rows.shellNoneRow.kinds == (if Rows.shellNoneRow.domain.isEmpty then [] else Tryz.f3.params.toList.map fun t => match Tryz.prog.underlying t with | some (.int k) => some k | _ => none)) = true := by kernel_rfl
theorem jf30 : (Rows.shellNoneRow.pinned == Rows.shellNoneRow.pinnedBy) = true := by kernel_rfl
theorem jf31 : (Rows.shellNoneRow.veiled == (Tryz.f3.params.toList ++ Rows.shellNoneSpec.plain.varTypes Tryz.prog ++ Tryz.f3.resultTypes.toList).any (Tryz.prog.veiledRec ·)) = true := by kernel_rfl
theorem jf32 : Rows.shellNoneRow.veiledFits Tryz.prog Tryz.f3.params.toList (Tryz.f3.params.toList ++ Rows.shellNoneSpec.plain.varTypes Tryz.prog ++ Tryz.f3.resultTypes.toList) = true := by kernel_rfl
end Go.Proofs.YtndpldhglnblfaaGreatDoor
