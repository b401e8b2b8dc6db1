/-
  DERIVED. GIVEN WITH THE SEED: THE CARDS: each row of YtplfmpcoojkjlaaDoorRows.lean that lists a variable, with what it lists TIED to the program's text (the seventh form; the later family's looks); each row that meets fmt, with fmt's text TOLD by the authors' own Lean function (tested against real Go, not proved from fmt's source: count such statements apart). THE CARD IS WHAT COUNTS. Prove the row's statement (the work); the ties are given (YtplfmpcoojkjlaaDoorTie.lean); close each card by the builder's one call (the guide's Derived/Test/ToyasCard.lean, 'card_holds'). Laid BY PROGRAM, IN A SANDBOX (cutbox-door.mjs). By AI agents, Wed Nov 11 2026. No macro, syntax, notation, axiom, sorry.
-/
import Derived.Test.YtplfmpcoojkjlaaDoorRows
import GoSem.ClaimSeven
namespace Go.Proofs.YtplfmpcoojkjlaaDoor
namespace Rows

/-- THE TIED CARD OF 'haulagelaw04.KeysCodes'. -/
def keysCodesCard : Claim7 := { stood := { row := keysCodesRow, standIns := [], harness := (true, "21c6c6ee13b4f368e600134ccf14af06a06d83ccb203d636826a5d85545d5bb1"), looks := false }, kinds := [], alts := [], laidByText := true, laidKinds := [.data, .pinned], laidTests := true, laidLooks := .later }
def KeysCodesCardSaid : Prop := Claim7.holds Tryd.pinned (.plain (OpenSpec.ofChange keysCodesSpec)) keysCodesCard

/-- THE TIED CARD OF 'haulagelaw04.KeysSpans'. -/
def keysSpansCard : Claim7 := { stood := { row := keysSpansRow, standIns := [], harness := (true, "21c6c6ee13b4f368e600134ccf14af06a06d83ccb203d636826a5d85545d5bb1"), looks := false }, kinds := [], alts := [], laidByText := true, laidKinds := [.data, .pinned], laidTests := true, laidLooks := .later }
def KeysSpansCardSaid : Prop := Claim7.holds Tryd.pinned (.plain (OpenSpec.ofChange keysSpansSpec)) keysSpansCard

/-- THE TIED CARD OF 'haulagelaw04.KeysSort'. -/
def keysSortCard : Claim7 := { stood := { row := keysSortRow, standIns := [], harness := (true, "21c6c6ee13b4f368e600134ccf14af06a06d83ccb203d636826a5d85545d5bb1"), looks := false }, kinds := [], alts := [], laidByText := true, laidKinds := [.data, .pinned], laidTests := true, laidLooks := .later }
def KeysSortCardSaid : Prop := Claim7.holds Tryd.pinned (.plain (OpenSpec.ofChange keysSortSpec)) keysSortCard

/-- THE TIED CARD OF 'haulagelaw04.KeysNumbers'. -/
def keysNumbersCard : Claim7 := { stood := { row := keysNumbersRow, standIns := [], harness := (true, "21c6c6ee13b4f368e600134ccf14af06a06d83ccb203d636826a5d85545d5bb1"), looks := false }, kinds := [], alts := [], laidByText := true, laidKinds := [.data, .pinned], laidTests := true, laidLooks := .later }
def KeysNumbersCardSaid : Prop := Claim7.holds Tryd.pinned (.plain (OpenSpec.ofChange keysNumbersSpec)) keysNumbersCard

/-- THE TIED CARD OF 'haulagelaw04.KeysBack'. -/
def keysBackCard : Claim7 := { stood := { row := keysBackRow, standIns := [], harness := (true, "21c6c6ee13b4f368e600134ccf14af06a06d83ccb203d636826a5d85545d5bb1"), looks := false }, kinds := [], alts := [], laidByText := true, laidKinds := [.data, .pinned], laidTests := true, laidLooks := .later }
def KeysBackCardSaid : Prop := Claim7.holds Tryd.pinned (.plain (OpenSpec.ofChange keysBackSpec)) keysBackCard

/-- THE TIED CARD OF 'haulagelaw04.KeysForm'. -/
def keysFormCard : Claim7 := { stood := { row := keysFormRow, standIns := [], harness := (true, "21c6c6ee13b4f368e600134ccf14af06a06d83ccb203d636826a5d85545d5bb1"), looks := false }, kinds := [], alts := [], laidByText := true, laidKinds := [.data, .pinned], laidTests := true, laidLooks := .later }
def KeysFormCardSaid : Prop := Claim7.holds Tryd.pinned (.plain (OpenSpec.ofChange keysFormSpec)) keysFormCard

/-- THE TIED CARD OF 'haulagelaw04.KeysOrder'. -/
def keysOrderCard : Claim7 := { stood := { row := keysOrderRow, standIns := [], harness := (true, "21c6c6ee13b4f368e600134ccf14af06a06d83ccb203d636826a5d85545d5bb1"), looks := false }, kinds := [], alts := [], laidByText := true, laidKinds := [.data, .pinned], laidTests := true, laidLooks := .later }
def KeysOrderCardSaid : Prop := Claim7.holds Tryd.pinned (.plain (OpenSpec.ofChange keysOrderSpec)) keysOrderCard

/-- THE TIED CARD OF 'haulagelaw04.KeysBeside'. -/
def keysBesideCard : Claim7 := { stood := { row := keysBesideRow, standIns := [], harness := (true, "21c6c6ee13b4f368e600134ccf14af06a06d83ccb203d636826a5d85545d5bb1"), looks := false }, kinds := [], alts := [], laidByText := true, laidKinds := [.data, .pinned], laidTests := true, laidLooks := .later }
def KeysBesideCardSaid : Prop := Claim7.holds Tryd.pinned (.plain (OpenSpec.ofChange keysBesideSpec)) keysBesideCard

/-- THE TIED CARD OF 'haulagelaw04.KeysOwn'. -/
def keysOwnCard : Claim7 := { stood := { row := keysOwnRow, standIns := [], harness := (true, "21c6c6ee13b4f368e600134ccf14af06a06d83ccb203d636826a5d85545d5bb1"), looks := false }, kinds := [], alts := [], laidByText := true, laidKinds := [.data, .pinned], laidTests := true, laidLooks := .later }
def KeysOwnCardSaid : Prop := Claim7.holds Tryd.pinned (.plain (OpenSpec.ofChange keysOwnSpec)) keysOwnCard

/-- THE SECOND FORM's CARD OF 'haulagelaw04.KeysCodes'. -/
def keysCodesUptoCard : Claim7 := { stood := { row := keysCodesUptoRow, standIns := [], harness := (true, "21c6c6ee13b4f368e600134ccf14af06a06d83ccb203d636826a5d85545d5bb1"), looks := false }, kinds := [], alts := [], laidByText := true, laidKinds := [.data, .pinned], laidTests := true, laidLooks := .later }
def KeysCodesUptoCardSaid : Prop := Claim7.holds Tryd.pinned (.plain (OpenSpec.upto keysCodesSpec)) keysCodesUptoCard

/-- THE SECOND FORM's CARD OF 'haulagelaw04.KeysSpans'. -/
def keysSpansUptoCard : Claim7 := { stood := { row := keysSpansUptoRow, standIns := [], harness := (true, "21c6c6ee13b4f368e600134ccf14af06a06d83ccb203d636826a5d85545d5bb1"), looks := false }, kinds := [], alts := [], laidByText := true, laidKinds := [.data, .pinned], laidTests := true, laidLooks := .later }
def KeysSpansUptoCardSaid : Prop := Claim7.holds Tryd.pinned (.plain (OpenSpec.upto keysSpansSpec)) keysSpansUptoCard

/-- THE SECOND FORM's CARD OF 'haulagelaw04.KeysSort'. -/
def keysSortUptoCard : Claim7 := { stood := { row := keysSortUptoRow, standIns := [], harness := (true, "21c6c6ee13b4f368e600134ccf14af06a06d83ccb203d636826a5d85545d5bb1"), looks := false }, kinds := [], alts := [], laidByText := true, laidKinds := [.data, .pinned], laidTests := true, laidLooks := .later }
def KeysSortUptoCardSaid : Prop := Claim7.holds Tryd.pinned (.plain (OpenSpec.upto keysSortSpec)) keysSortUptoCard

/-- THE SECOND FORM's CARD OF 'haulagelaw04.KeysNumbers'. -/
def keysNumbersUptoCard : Claim7 := { stood := { row := keysNumbersUptoRow, standIns := [], harness := (true, "21c6c6ee13b4f368e600134ccf14af06a06d83ccb203d636826a5d85545d5bb1"), looks := false }, kinds := [], alts := [], laidByText := true, laidKinds := [.data, .pinned], laidTests := true, laidLooks := .later }
def KeysNumbersUptoCardSaid : Prop := Claim7.holds Tryd.pinned (.plain (OpenSpec.upto keysNumbersSpec)) keysNumbersUptoCard

/-- THE SECOND FORM's CARD OF 'haulagelaw04.KeysBack'. -/
def keysBackUptoCard : Claim7 := { stood := { row := keysBackUptoRow, standIns := [], harness := (true, "21c6c6ee13b4f368e600134ccf14af06a06d83ccb203d636826a5d85545d5bb1"), looks := false }, kinds := [], alts := [], laidByText := true, laidKinds := [.data, .pinned], laidTests := true, laidLooks := .later }
def KeysBackUptoCardSaid : Prop := Claim7.holds Tryd.pinned (.plain (OpenSpec.upto keysBackSpec)) keysBackUptoCard

/-- THE SECOND FORM's CARD OF 'haulagelaw04.KeysForm'. -/
def keysFormUptoCard : Claim7 := { stood := { row := keysFormUptoRow, standIns := [], harness := (true, "21c6c6ee13b4f368e600134ccf14af06a06d83ccb203d636826a5d85545d5bb1"), looks := false }, kinds := [], alts := [], laidByText := true, laidKinds := [.data, .pinned], laidTests := true, laidLooks := .later }
def KeysFormUptoCardSaid : Prop := Claim7.holds Tryd.pinned (.plain (OpenSpec.upto keysFormSpec)) keysFormUptoCard

/-- THE SECOND FORM's CARD OF 'haulagelaw04.KeysOrder'. -/
def keysOrderUptoCard : Claim7 := { stood := { row := keysOrderUptoRow, standIns := [], harness := (true, "21c6c6ee13b4f368e600134ccf14af06a06d83ccb203d636826a5d85545d5bb1"), looks := false }, kinds := [], alts := [], laidByText := true, laidKinds := [.data, .pinned], laidTests := true, laidLooks := .later }
def KeysOrderUptoCardSaid : Prop := Claim7.holds Tryd.pinned (.plain (OpenSpec.upto keysOrderSpec)) keysOrderUptoCard

/-- THE SECOND FORM's CARD OF 'haulagelaw04.KeysBeside'. -/
def keysBesideUptoCard : Claim7 := { stood := { row := keysBesideUptoRow, standIns := [], harness := (true, "21c6c6ee13b4f368e600134ccf14af06a06d83ccb203d636826a5d85545d5bb1"), looks := false }, kinds := [], alts := [], laidByText := true, laidKinds := [.data, .pinned], laidTests := true, laidLooks := .later }
def KeysBesideUptoCardSaid : Prop := Claim7.holds Tryd.pinned (.plain (OpenSpec.upto keysBesideSpec)) keysBesideUptoCard

/-- THE SECOND FORM's CARD OF 'haulagelaw04.KeysOwn'. -/
def keysOwnUptoCard : Claim7 := { stood := { row := keysOwnUptoRow, standIns := [], harness := (true, "21c6c6ee13b4f368e600134ccf14af06a06d83ccb203d636826a5d85545d5bb1"), looks := false }, kinds := [], alts := [], laidByText := true, laidKinds := [.data, .pinned], laidTests := true, laidLooks := .later }
def KeysOwnUptoCardSaid : Prop := Claim7.holds Tryd.pinned (.plain (OpenSpec.upto keysOwnSpec)) keysOwnUptoCard
end Rows
end Go.Proofs.YtplfmpcoojkjlaaDoor
