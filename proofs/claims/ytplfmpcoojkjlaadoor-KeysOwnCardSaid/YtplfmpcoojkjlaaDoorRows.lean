/-
  NARROWER THAN 'FOR EVERY INPUT', by the rows' own cells (each row's printed sentence says how): KeysCodes: loops, laid · KeysSpans: loops, laid · KeysSort: loops, laid · KeysNumbers: laid · KeysBack: loops, laid · KeysForm: laid · KeysOrder: loops, laid · KeysBeside: loops, laid · KeysOwn: loops, laid.
  DERIVED. THE GIVEN ROWS OF THIS SEAT. 9 by the template 'for every input the law returns true; each argument reads behind the call as it read before'; 0 by the template 'total and deterministic' (their statements: YtplfmpcoojkjlaaDoorTotals.lean).
  GIVEN WITH THE SEED: the statements are not yours to turn. If you find one false, say at which input.
  Laid BY PROGRAM, IN A SANDBOX (cutbox-rows.mjs): the forced cells as the released guide's own fill.sh prints them over the translation ddd73e7a9d48ee9d… (all of the seat's roots in one cut). By AI agents, Wed Nov 11 2026. No macro, syntax, notation, axiom, sorry.
-/
import Derived.Test.YtplfmpcoojkjlaaDoorChecked
import GoSem.PinnedTables
import GoSem.Claim
import GoSem.ClaimJoined
import GoSem.ClaimMapViews
import Derived.JoinedTies
import Derived.KernelRfl
namespace Go.Proofs.YtplfmpcoojkjlaaDoor
/- THE CELL 'sum', in the pinned program and in every row, IS THE sha256 OF THE DUMP (.gsa) THAT YtplfmpcoojkjlaaDoorProg.lean LOADS. Nothing in Lean hashes anything: it is a label: what it is worth is what the hold of that sum in a sandbox is worth. -/
noncomputable def Tryd.pinned : Pinned := { name := "ytplfmpcoojkjlaadoor", sum := "ddd73e7a9d48ee9d2160f299741c3964b66c75414f35ce0f201abead0566b7fd", checked := Tryd.checked }
namespace Rows
def none {H : Type} : Left H := { results := [], args := [] }

/- WHAT THE LISTED PACKAGE-LEVEL VARIABLES READ AS WHEN THE CALL BEGINS. Each datum BY PROGRAM (the guide's laid-datum.mjs) off the statement by which the dump's own 'gosem.cut.vars' lays the variable. In a bare row this is a premise. The card (YtplfmpcoojkjlaaDoorCards.lean) ties it to the program's text. -/
def laid_unicode_utf8_acceptRanges {H : Type} : DataW H := .agg [.agg [.lit (.int .u8 128), .lit (.int .u8 191)], .agg [.lit (.int .u8 160), .lit (.int .u8 191)], .agg [.lit (.int .u8 128), .lit (.int .u8 159)], .agg [.lit (.int .u8 144), .lit (.int .u8 191)], .agg [.lit (.int .u8 128), .lit (.int .u8 143)], .agg [.lit (.int .u8 0), .lit (.int .u8 0)], .agg [.lit (.int .u8 0), .lit (.int .u8 0)], .agg [.lit (.int .u8 0), .lit (.int .u8 0)], .agg [.lit (.int .u8 0), .lit (.int .u8 0)], .agg [.lit (.int .u8 0), .lit (.int .u8 0)], .agg [.lit (.int .u8 0), .lit (.int .u8 0)], .agg [.lit (.int .u8 0), .lit (.int .u8 0)], .agg [.lit (.int .u8 0), .lit (.int .u8 0)], .agg [.lit (.int .u8 0), .lit (.int .u8 0)], .agg [.lit (.int .u8 0), .lit (.int .u8 0)], .agg [.lit (.int .u8 0), .lit (.int .u8 0)]]
/-- One of Go's own tables, pinned by name: the form's constant. -/
def laid_unicode_utf8_first : DataW Unit := Go.Pinned.utf8First

/-- 'haulagelaw04.KeysCodes': WHATEVER THE INPUT: true; the input reads as it did. -/
def keysCodesSpec : ChangeSpec := { name := "keysCodes", fn := fun _ => fun
  | [d] => { results := [.lit (.bool true)], args := [d] }
  | _ => none }
def keysCodesRow : OpenClaim := { program := "ytplfmpcoojkjlaadoor", sum := "ddd73e7a9d48ee9d2160f299741c3964b66c75414f35ce0f201abead0566b7fd", func := "haulage/haulagelaw04.KeysCodes", spec := "keysCodes", inPlace := ["math.Float64frombits", "math.Float64bits", "internal/bytealg.Count", "internal/bytealg.IndexByte", "internal/bytealg.Index"], recurses := true, named := ["internal/bytealg.MaxLen", "unicode/utf8.first", "unicode/utf8.acceptRanges"], loops := true, apart := false, laid := [("unicode/utf8.acceptRanges", laid_unicode_utf8_acceptRanges), ("unicode/utf8.first", laid_unicode_utf8_first)] }
def KeysCodesSaid : Prop := keysCodesRow.holds Tryd.pinned (OpenSpec.ofChange keysCodesSpec)

/-- ITS FALSE NEIGHBOUR: 'it returns false'. Refute it at one input. -/
def keysCodesWrong : ChangeSpec := { name := "keysCodes", fn := fun _ => fun
  | [d] => { results := [.lit (.bool false)], args := [d] }
  | _ => none }
def KeysCodesWrongFalsely : Prop := keysCodesRow.holds Tryd.pinned (OpenSpec.ofChange keysCodesWrong)

/-- 'haulagelaw04.KeysSpans': WHATEVER THE INPUT: true; the input reads as it did. -/
def keysSpansSpec : ChangeSpec := { name := "keysSpans", fn := fun _ => fun
  | [d] => { results := [.lit (.bool true)], args := [d] }
  | _ => none }
def keysSpansRow : OpenClaim := { program := "ytplfmpcoojkjlaadoor", sum := "ddd73e7a9d48ee9d2160f299741c3964b66c75414f35ce0f201abead0566b7fd", func := "haulage/haulagelaw04.KeysSpans", spec := "keysSpans", inPlace := ["math.Float64frombits", "math.Float64bits", "internal/bytealg.Count", "internal/bytealg.IndexByte", "internal/bytealg.Index"], recurses := true, named := ["internal/bytealg.MaxLen", "unicode/utf8.first", "unicode/utf8.acceptRanges"], loops := true, apart := false, laid := [("unicode/utf8.acceptRanges", laid_unicode_utf8_acceptRanges), ("unicode/utf8.first", laid_unicode_utf8_first)] }
def KeysSpansSaid : Prop := keysSpansRow.holds Tryd.pinned (OpenSpec.ofChange keysSpansSpec)

/-- ITS FALSE NEIGHBOUR: 'it returns false'. Refute it at one input. -/
def keysSpansWrong : ChangeSpec := { name := "keysSpans", fn := fun _ => fun
  | [d] => { results := [.lit (.bool false)], args := [d] }
  | _ => none }
def KeysSpansWrongFalsely : Prop := keysSpansRow.holds Tryd.pinned (OpenSpec.ofChange keysSpansWrong)

/-- 'haulagelaw04.KeysSort': WHATEVER THE INPUT: true; the input reads as it did. -/
def keysSortSpec : ChangeSpec := { name := "keysSort", fn := fun _ => fun
  | [d1, d2] => { results := [.lit (.bool true)], args := [d1, d2] }
  | _ => none }
def keysSortRow : OpenClaim := { program := "ytplfmpcoojkjlaadoor", sum := "ddd73e7a9d48ee9d2160f299741c3964b66c75414f35ce0f201abead0566b7fd", func := "haulage/haulagelaw04.KeysSort", spec := "keysSort", inPlace := ["math.Float64bits", "internal/bytealg.Count", "internal/bytealg.IndexByte", "internal/bytealg.Index", "math.Float64frombits", "internal/bytealg.Compare"], unfollowed := true, recurses := true, named := ["internal/bytealg.MaxLen", "unicode/utf8.first", "unicode/utf8.acceptRanges"], loops := true, apart := false, laid := [("unicode/utf8.acceptRanges", laid_unicode_utf8_acceptRanges), ("unicode/utf8.first", laid_unicode_utf8_first)] }
def KeysSortSaid : Prop := keysSortRow.holds Tryd.pinned (OpenSpec.ofChange keysSortSpec)

/-- ITS FALSE NEIGHBOUR: 'it returns false'. Refute it at one input. -/
def keysSortWrong : ChangeSpec := { name := "keysSort", fn := fun _ => fun
  | [d1, d2] => { results := [.lit (.bool false)], args := [d1, d2] }
  | _ => none }
def KeysSortWrongFalsely : Prop := keysSortRow.holds Tryd.pinned (OpenSpec.ofChange keysSortWrong)

/-- 'haulagelaw04.KeysNumbers': WHATEVER THE INPUT: true; the input reads as it did. -/
def keysNumbersSpec : ChangeSpec := { name := "keysNumbers", fn := fun _ => fun
  | [d1, d2, d3, d4] => { results := [.lit (.bool true)], args := [d1, d2, d3, d4] }
  | _ => none }
def keysNumbersRow : OpenClaim := { program := "ytplfmpcoojkjlaadoor", sum := "ddd73e7a9d48ee9d2160f299741c3964b66c75414f35ce0f201abead0566b7fd", func := "haulage/haulagelaw04.KeysNumbers", spec := "keysNumbers", inPlace := ["math.Float64bits", "internal/bytealg.Count", "internal/bytealg.IndexByte", "internal/bytealg.Index", "math.Float64frombits", "internal/bytealg.Compare"], unfollowed := true, recurses := true, named := ["internal/bytealg.MaxLen", "unicode/utf8.first", "unicode/utf8.acceptRanges"], apart := false, laid := [("unicode/utf8.acceptRanges", laid_unicode_utf8_acceptRanges), ("unicode/utf8.first", laid_unicode_utf8_first)] }
def KeysNumbersSaid : Prop := keysNumbersRow.holds Tryd.pinned (OpenSpec.ofChange keysNumbersSpec)

/-- ITS FALSE NEIGHBOUR: 'it returns false'. Refute it at one input. -/
def keysNumbersWrong : ChangeSpec := { name := "keysNumbers", fn := fun _ => fun
  | [d1, d2, d3, d4] => { results := [.lit (.bool false)], args := [d1, d2, d3, d4] }
  | _ => none }
def KeysNumbersWrongFalsely : Prop := keysNumbersRow.holds Tryd.pinned (OpenSpec.ofChange keysNumbersWrong)

/-- 'haulagelaw04.KeysBack': WHATEVER THE INPUT: true; the input reads as it did. -/
def keysBackSpec : ChangeSpec := { name := "keysBack", fn := fun _ => fun
  | [d1, d2] => { results := [.lit (.bool true)], args := [d1, d2] }
  | _ => none }
def keysBackRow : OpenClaim := { program := "ytplfmpcoojkjlaadoor", sum := "ddd73e7a9d48ee9d2160f299741c3964b66c75414f35ce0f201abead0566b7fd", func := "haulage/haulagelaw04.KeysBack", spec := "keysBack", inPlace := ["math.Float64bits", "internal/bytealg.Count", "internal/bytealg.IndexByte", "internal/bytealg.Index", "math.Float64frombits", "internal/bytealg.Compare"], unfollowed := true, recurses := true, named := ["internal/bytealg.MaxLen", "unicode/utf8.first", "unicode/utf8.acceptRanges"], loops := true, apart := false, laid := [("unicode/utf8.acceptRanges", laid_unicode_utf8_acceptRanges), ("unicode/utf8.first", laid_unicode_utf8_first)] }
def KeysBackSaid : Prop := keysBackRow.holds Tryd.pinned (OpenSpec.ofChange keysBackSpec)

/-- ITS FALSE NEIGHBOUR: 'it returns false'. Refute it at one input. -/
def keysBackWrong : ChangeSpec := { name := "keysBack", fn := fun _ => fun
  | [d1, d2] => { results := [.lit (.bool false)], args := [d1, d2] }
  | _ => none }
def KeysBackWrongFalsely : Prop := keysBackRow.holds Tryd.pinned (OpenSpec.ofChange keysBackWrong)

/-- 'haulagelaw04.KeysForm': WHATEVER THE INPUT: true; the input reads as it did. -/
def keysFormSpec : ChangeSpec := { name := "keysForm", fn := fun _ => fun
  | [d] => { results := [.lit (.bool true)], args := [d] }
  | _ => none }
def keysFormRow : OpenClaim := { program := "ytplfmpcoojkjlaadoor", sum := "ddd73e7a9d48ee9d2160f299741c3964b66c75414f35ce0f201abead0566b7fd", func := "haulage/haulagelaw04.KeysForm", spec := "keysForm", inPlace := ["math.Float64bits", "internal/bytealg.Count", "internal/bytealg.IndexByte", "internal/bytealg.Index", "math.Float64frombits", "internal/bytealg.Compare"], unfollowed := true, recurses := true, named := ["internal/bytealg.MaxLen", "unicode/utf8.first", "unicode/utf8.acceptRanges"], apart := false, laid := [("unicode/utf8.acceptRanges", laid_unicode_utf8_acceptRanges), ("unicode/utf8.first", laid_unicode_utf8_first)] }
def KeysFormSaid : Prop := keysFormRow.holds Tryd.pinned (OpenSpec.ofChange keysFormSpec)

/-- ITS FALSE NEIGHBOUR: 'it returns false'. Refute it at one input. -/
def keysFormWrong : ChangeSpec := { name := "keysForm", fn := fun _ => fun
  | [d] => { results := [.lit (.bool false)], args := [d] }
  | _ => none }
def KeysFormWrongFalsely : Prop := keysFormRow.holds Tryd.pinned (OpenSpec.ofChange keysFormWrong)

/-- 'haulagelaw04.KeysOrder': WHATEVER THE INPUT: true; the input reads as it did. -/
def keysOrderSpec : ChangeSpec := { name := "keysOrder", fn := fun _ => fun
  | [d1, d2, d3] => { results := [.lit (.bool true)], args := [d1, d2, d3] }
  | _ => none }
def keysOrderRow : OpenClaim := { program := "ytplfmpcoojkjlaadoor", sum := "ddd73e7a9d48ee9d2160f299741c3964b66c75414f35ce0f201abead0566b7fd", func := "haulage/haulagelaw04.KeysOrder", spec := "keysOrder", inPlace := ["math.Float64bits", "internal/bytealg.Count", "internal/bytealg.IndexByte", "internal/bytealg.Index", "math.Float64frombits", "internal/bytealg.Compare"], unfollowed := true, recurses := true, named := ["internal/bytealg.MaxLen", "unicode/utf8.first", "unicode/utf8.acceptRanges"], loops := true, apart := false, laid := [("unicode/utf8.acceptRanges", laid_unicode_utf8_acceptRanges), ("unicode/utf8.first", laid_unicode_utf8_first)] }
def KeysOrderSaid : Prop := keysOrderRow.holds Tryd.pinned (OpenSpec.ofChange keysOrderSpec)

/-- ITS FALSE NEIGHBOUR: 'it returns false'. Refute it at one input. -/
def keysOrderWrong : ChangeSpec := { name := "keysOrder", fn := fun _ => fun
  | [d1, d2, d3] => { results := [.lit (.bool false)], args := [d1, d2, d3] }
  | _ => none }
def KeysOrderWrongFalsely : Prop := keysOrderRow.holds Tryd.pinned (OpenSpec.ofChange keysOrderWrong)

/-- 'haulagelaw04.KeysBeside': WHATEVER THE INPUT: true; the input reads as it did. -/
def keysBesideSpec : ChangeSpec := { name := "keysBeside", fn := fun _ => fun
  | [d1, d2, d3] => { results := [.lit (.bool true)], args := [d1, d2, d3] }
  | _ => none }
def keysBesideRow : OpenClaim := { program := "ytplfmpcoojkjlaadoor", sum := "ddd73e7a9d48ee9d2160f299741c3964b66c75414f35ce0f201abead0566b7fd", func := "haulage/haulagelaw04.KeysBeside", spec := "keysBeside", inPlace := ["math.Float64bits", "internal/bytealg.Count", "internal/bytealg.IndexByte", "internal/bytealg.Index", "math.Float64frombits", "internal/bytealg.Compare"], unfollowed := true, recurses := true, named := ["internal/bytealg.MaxLen", "unicode/utf8.first", "unicode/utf8.acceptRanges"], loops := true, apart := false, laid := [("unicode/utf8.acceptRanges", laid_unicode_utf8_acceptRanges), ("unicode/utf8.first", laid_unicode_utf8_first)] }
def KeysBesideSaid : Prop := keysBesideRow.holds Tryd.pinned (OpenSpec.ofChange keysBesideSpec)

/-- ITS FALSE NEIGHBOUR: 'it returns false'. Refute it at one input. -/
def keysBesideWrong : ChangeSpec := { name := "keysBeside", fn := fun _ => fun
  | [d1, d2, d3] => { results := [.lit (.bool false)], args := [d1, d2, d3] }
  | _ => none }
def KeysBesideWrongFalsely : Prop := keysBesideRow.holds Tryd.pinned (OpenSpec.ofChange keysBesideWrong)

/-- 'haulagelaw04.KeysOwn': WHATEVER THE INPUT: true; the input reads as it did. -/
def keysOwnSpec : ChangeSpec := { name := "keysOwn", fn := fun _ => fun
  | [d1, d2] => { results := [.lit (.bool true)], args := [d1, d2] }
  | _ => none }
def keysOwnRow : OpenClaim := { program := "ytplfmpcoojkjlaadoor", sum := "ddd73e7a9d48ee9d2160f299741c3964b66c75414f35ce0f201abead0566b7fd", func := "haulage/haulagelaw04.KeysOwn", spec := "keysOwn", inPlace := ["math.Float64bits", "internal/bytealg.Count", "internal/bytealg.IndexByte", "internal/bytealg.Index", "math.Float64frombits", "internal/bytealg.Compare"], unfollowed := true, recurses := true, named := ["internal/bytealg.MaxLen", "unicode/utf8.first", "unicode/utf8.acceptRanges"], loops := true, apart := false, laid := [("unicode/utf8.acceptRanges", laid_unicode_utf8_acceptRanges), ("unicode/utf8.first", laid_unicode_utf8_first)] }
def KeysOwnSaid : Prop := keysOwnRow.holds Tryd.pinned (OpenSpec.ofChange keysOwnSpec)

/-- ITS FALSE NEIGHBOUR: 'it returns false'. Refute it at one input. -/
def keysOwnWrong : ChangeSpec := { name := "keysOwn", fn := fun _ => fun
  | [d1, d2] => { results := [.lit (.bool false)], args := [d1, d2] }
  | _ => none }
def KeysOwnWrongFalsely : Prop := keysOwnRow.holds Tryd.pinned (OpenSpec.ofChange keysOwnWrong)

/- THE SECOND FORM. 'bulk': how many values and letters a reading holds, each counted each time it is reached (what is shared counts as often as it is met; a slice's spare places count too). A statement '..UptoSaid' is the law's where the arguments, and the package variables that the reading takes, are together of bulk at most 1048576: NARROWER than '..Said'. Prove '..Said' where nothing that the law and all that it calls make is longer than what came in: it says more and counts as full. Else prove '..UptoSaid'. A law counts once. -/
mutual
def uptoBulk {H : Type} : DataW H → Nat
  | .lit (.string bytes) => bytes.length + 1
  | .lit _ => 1
  | .nil => 1
  | .ptr d => uptoBulk d + 1
  | .slice elems spare => uptoBulkAll elems + uptoBulkAll spare + 1
  | .agg parts => uptoBulkAll parts + 1
  | .iface _ d => uptoBulk d + 1
  | .map entries => uptoBulkEntries entries + 1
  | .held _ => 1
def uptoBulkAll {H : Type} : List (DataW H) → Nat
  | [] => 0
  | d :: r => uptoBulk d + uptoBulkAll r
def uptoBulkEntries {H : Type} : List (Lit × DataW H) → Nat
  | [] => 0
  | x :: r => uptoBulkEntry x + uptoBulkEntries r
def uptoBulkEntry {H : Type} : Lit × DataW H → Nat
  | (.string bytes, d) => bytes.length + uptoBulk d + 1
  | (_, d) => uptoBulk d + 1
 end
def uptoSmall : (H : Type) → List (DataW H) → Bool := fun _ ds => decide (uptoBulkAll ds ≤ 1048576)
def OpenSpec.upto (s : _root_.Go.ChangeSpec) : _root_.Go.OpenSpec := { _root_.Go.OpenSpec.ofChange s with cond := some uptoSmall }

/-- 'haulagelaw04.KeysCodes', WHERE WHAT IT READS IS OF BULK AT MOST 1048576: true; the input reads as it did. -/
def keysCodesUptoRow : OpenClaim := { program := "ytplfmpcoojkjlaadoor", sum := "ddd73e7a9d48ee9d2160f299741c3964b66c75414f35ce0f201abead0566b7fd", func := "haulage/haulagelaw04.KeysCodes", spec := "keysCodes", inPlace := ["math.Float64frombits", "math.Float64bits", "internal/bytealg.Count", "internal/bytealg.IndexByte", "internal/bytealg.Index"], recurses := true, named := ["internal/bytealg.MaxLen", "unicode/utf8.first", "unicode/utf8.acceptRanges"], loops := true, apart := false, laid := [("unicode/utf8.acceptRanges", laid_unicode_utf8_acceptRanges), ("unicode/utf8.first", laid_unicode_utf8_first)], narrowed := true }
def KeysCodesUptoSaid : Prop := keysCodesUptoRow.holds Tryd.pinned (OpenSpec.upto keysCodesSpec)

/-- 'haulagelaw04.KeysSpans', WHERE WHAT IT READS IS OF BULK AT MOST 1048576: true; the input reads as it did. -/
def keysSpansUptoRow : OpenClaim := { program := "ytplfmpcoojkjlaadoor", sum := "ddd73e7a9d48ee9d2160f299741c3964b66c75414f35ce0f201abead0566b7fd", func := "haulage/haulagelaw04.KeysSpans", spec := "keysSpans", inPlace := ["math.Float64frombits", "math.Float64bits", "internal/bytealg.Count", "internal/bytealg.IndexByte", "internal/bytealg.Index"], recurses := true, named := ["internal/bytealg.MaxLen", "unicode/utf8.first", "unicode/utf8.acceptRanges"], loops := true, apart := false, laid := [("unicode/utf8.acceptRanges", laid_unicode_utf8_acceptRanges), ("unicode/utf8.first", laid_unicode_utf8_first)], narrowed := true }
def KeysSpansUptoSaid : Prop := keysSpansUptoRow.holds Tryd.pinned (OpenSpec.upto keysSpansSpec)

/-- 'haulagelaw04.KeysSort', WHERE WHAT IT READS IS OF BULK AT MOST 1048576: true; the input reads as it did. -/
def keysSortUptoRow : OpenClaim := { program := "ytplfmpcoojkjlaadoor", sum := "ddd73e7a9d48ee9d2160f299741c3964b66c75414f35ce0f201abead0566b7fd", func := "haulage/haulagelaw04.KeysSort", spec := "keysSort", inPlace := ["math.Float64bits", "internal/bytealg.Count", "internal/bytealg.IndexByte", "internal/bytealg.Index", "math.Float64frombits", "internal/bytealg.Compare"], unfollowed := true, recurses := true, named := ["internal/bytealg.MaxLen", "unicode/utf8.first", "unicode/utf8.acceptRanges"], loops := true, apart := false, laid := [("unicode/utf8.acceptRanges", laid_unicode_utf8_acceptRanges), ("unicode/utf8.first", laid_unicode_utf8_first)], narrowed := true }
def KeysSortUptoSaid : Prop := keysSortUptoRow.holds Tryd.pinned (OpenSpec.upto keysSortSpec)

/-- 'haulagelaw04.KeysNumbers', WHERE WHAT IT READS IS OF BULK AT MOST 1048576: true; the input reads as it did. -/
def keysNumbersUptoRow : OpenClaim := { program := "ytplfmpcoojkjlaadoor", sum := "ddd73e7a9d48ee9d2160f299741c3964b66c75414f35ce0f201abead0566b7fd", func := "haulage/haulagelaw04.KeysNumbers", spec := "keysNumbers", inPlace := ["math.Float64bits", "internal/bytealg.Count", "internal/bytealg.IndexByte", "internal/bytealg.Index", "math.Float64frombits", "internal/bytealg.Compare"], unfollowed := true, recurses := true, named := ["internal/bytealg.MaxLen", "unicode/utf8.first", "unicode/utf8.acceptRanges"], apart := false, laid := [("unicode/utf8.acceptRanges", laid_unicode_utf8_acceptRanges), ("unicode/utf8.first", laid_unicode_utf8_first)], narrowed := true }
def KeysNumbersUptoSaid : Prop := keysNumbersUptoRow.holds Tryd.pinned (OpenSpec.upto keysNumbersSpec)

/-- 'haulagelaw04.KeysBack', WHERE WHAT IT READS IS OF BULK AT MOST 1048576: true; the input reads as it did. -/
def keysBackUptoRow : OpenClaim := { program := "ytplfmpcoojkjlaadoor", sum := "ddd73e7a9d48ee9d2160f299741c3964b66c75414f35ce0f201abead0566b7fd", func := "haulage/haulagelaw04.KeysBack", spec := "keysBack", inPlace := ["math.Float64bits", "internal/bytealg.Count", "internal/bytealg.IndexByte", "internal/bytealg.Index", "math.Float64frombits", "internal/bytealg.Compare"], unfollowed := true, recurses := true, named := ["internal/bytealg.MaxLen", "unicode/utf8.first", "unicode/utf8.acceptRanges"], loops := true, apart := false, laid := [("unicode/utf8.acceptRanges", laid_unicode_utf8_acceptRanges), ("unicode/utf8.first", laid_unicode_utf8_first)], narrowed := true }
def KeysBackUptoSaid : Prop := keysBackUptoRow.holds Tryd.pinned (OpenSpec.upto keysBackSpec)

/-- 'haulagelaw04.KeysForm', WHERE WHAT IT READS IS OF BULK AT MOST 1048576: true; the input reads as it did. -/
def keysFormUptoRow : OpenClaim := { program := "ytplfmpcoojkjlaadoor", sum := "ddd73e7a9d48ee9d2160f299741c3964b66c75414f35ce0f201abead0566b7fd", func := "haulage/haulagelaw04.KeysForm", spec := "keysForm", inPlace := ["math.Float64bits", "internal/bytealg.Count", "internal/bytealg.IndexByte", "internal/bytealg.Index", "math.Float64frombits", "internal/bytealg.Compare"], unfollowed := true, recurses := true, named := ["internal/bytealg.MaxLen", "unicode/utf8.first", "unicode/utf8.acceptRanges"], apart := false, laid := [("unicode/utf8.acceptRanges", laid_unicode_utf8_acceptRanges), ("unicode/utf8.first", laid_unicode_utf8_first)], narrowed := true }
def KeysFormUptoSaid : Prop := keysFormUptoRow.holds Tryd.pinned (OpenSpec.upto keysFormSpec)

/-- 'haulagelaw04.KeysOrder', WHERE WHAT IT READS IS OF BULK AT MOST 1048576: true; the input reads as it did. -/
def keysOrderUptoRow : OpenClaim := { program := "ytplfmpcoojkjlaadoor", sum := "ddd73e7a9d48ee9d2160f299741c3964b66c75414f35ce0f201abead0566b7fd", func := "haulage/haulagelaw04.KeysOrder", spec := "keysOrder", inPlace := ["math.Float64bits", "internal/bytealg.Count", "internal/bytealg.IndexByte", "internal/bytealg.Index", "math.Float64frombits", "internal/bytealg.Compare"], unfollowed := true, recurses := true, named := ["internal/bytealg.MaxLen", "unicode/utf8.first", "unicode/utf8.acceptRanges"], loops := true, apart := false, laid := [("unicode/utf8.acceptRanges", laid_unicode_utf8_acceptRanges), ("unicode/utf8.first", laid_unicode_utf8_first)], narrowed := true }
def KeysOrderUptoSaid : Prop := keysOrderUptoRow.holds Tryd.pinned (OpenSpec.upto keysOrderSpec)

/-- 'haulagelaw04.KeysBeside', WHERE WHAT IT READS IS OF BULK AT MOST 1048576: true; the input reads as it did. -/
def keysBesideUptoRow : OpenClaim := { program := "ytplfmpcoojkjlaadoor", sum := "ddd73e7a9d48ee9d2160f299741c3964b66c75414f35ce0f201abead0566b7fd", func := "haulage/haulagelaw04.KeysBeside", spec := "keysBeside", inPlace := ["math.Float64bits", "internal/bytealg.Count", "internal/bytealg.IndexByte", "internal/bytealg.Index", "math.Float64frombits", "internal/bytealg.Compare"], unfollowed := true, recurses := true, named := ["internal/bytealg.MaxLen", "unicode/utf8.first", "unicode/utf8.acceptRanges"], loops := true, apart := false, laid := [("unicode/utf8.acceptRanges", laid_unicode_utf8_acceptRanges), ("unicode/utf8.first", laid_unicode_utf8_first)], narrowed := true }
def KeysBesideUptoSaid : Prop := keysBesideUptoRow.holds Tryd.pinned (OpenSpec.upto keysBesideSpec)

/-- 'haulagelaw04.KeysOwn', WHERE WHAT IT READS IS OF BULK AT MOST 1048576: true; the input reads as it did. -/
def keysOwnUptoRow : OpenClaim := { program := "ytplfmpcoojkjlaadoor", sum := "ddd73e7a9d48ee9d2160f299741c3964b66c75414f35ce0f201abead0566b7fd", func := "haulage/haulagelaw04.KeysOwn", spec := "keysOwn", inPlace := ["math.Float64bits", "internal/bytealg.Count", "internal/bytealg.IndexByte", "internal/bytealg.Index", "math.Float64frombits", "internal/bytealg.Compare"], unfollowed := true, recurses := true, named := ["internal/bytealg.MaxLen", "unicode/utf8.first", "unicode/utf8.acceptRanges"], loops := true, apart := false, laid := [("unicode/utf8.acceptRanges", laid_unicode_utf8_acceptRanges), ("unicode/utf8.first", laid_unicode_utf8_first)], narrowed := true }
def KeysOwnUptoSaid : Prop := keysOwnUptoRow.holds Tryd.pinned (OpenSpec.upto keysOwnSpec)

end Rows
end Go.Proofs.YtplfmpcoojkjlaaDoor
