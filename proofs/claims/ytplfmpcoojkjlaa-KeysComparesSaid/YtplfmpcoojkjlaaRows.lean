/-
  NARROWER THAN 'FOR EVERY INPUT', by the rows' own cells (each row's printed sentence says how): KeysCompares: loops.
  DERIVED. THE GIVEN ROWS OF THIS SEAT. 2 by the template 'for every input the law returns true; each argument reads behind the call as it read before'; 0 by the template 'total and deterministic' (their statements: YtplfmpcoojkjlaaTotals.lean).
  GIVEN WITH THE SEED: the statements are not yours to turn. If you find one false, say at which input.
  Laid BY PROGRAM, IN A SANDBOX (cutbox-rows.mjs): the forced cells as the released guide's own fill.sh prints them over the translation bfedce2b8d3bde52… (all of the seat's roots in one cut). By AI agents, Wed Nov 11 2026. No macro, syntax, notation, axiom, sorry.
-/
import Derived.Test.YtplfmpcoojkjlaaChecked
import GoSem.Claim
import GoSem.ClaimJoined
import GoSem.ClaimMapViews
import Derived.JoinedTies
import Derived.KernelRfl
namespace Go.Proofs.Ytplfmpcoojkjlaa
/- THE CELL 'sum', in the pinned program and in every row, IS THE sha256 OF THE DUMP (.gsa) THAT YtplfmpcoojkjlaaProg.lean LOADS. Nothing in Lean hashes anything: it is a label: what it is worth is what the hold of that sum in a sandbox is worth. -/
noncomputable def Try.pinned : Pinned := { name := "ytplfmpcoojkjlaa", sum := "bfedce2b8d3bde520907c072d27666b0269e770f60871dc9a95913fae778f681", checked := Try.checked }
namespace Rows
def none {H : Type} : Left H := { results := [], args := [] }

/-- 'haulagelaw04.KeysReads': WHATEVER THE INPUT: true; the input reads as it did. -/
def keysReadsSpec : ChangeSpec := { name := "keysReads", fn := fun _ => fun
  | [d] => { results := [.lit (.bool true)], args := [d] }
  | _ => none }
def keysReadsRow : OpenClaim := { program := "ytplfmpcoojkjlaa", sum := "bfedce2b8d3bde520907c072d27666b0269e770f60871dc9a95913fae778f681", func := "haulage/haulagelaw04.KeysReads", spec := "keysReads", inPlace := ["math.Float64frombits", "internal/bytealg.IndexByte", "math.Float64bits"], unfollowed := true, recurses := true, apart := false }
def KeysReadsSaid : Prop := keysReadsRow.holds Try.pinned (OpenSpec.ofChange keysReadsSpec)

/-- ITS FALSE NEIGHBOUR: 'it returns false'. Refute it at one input. -/
def keysReadsWrong : ChangeSpec := { name := "keysReads", fn := fun _ => fun
  | [d] => { results := [.lit (.bool false)], args := [d] }
  | _ => none }
def KeysReadsWrongFalsely : Prop := keysReadsRow.holds Try.pinned (OpenSpec.ofChange keysReadsWrong)

/-- 'haulagelaw04.KeysCompares': WHATEVER THE INPUT: true; the input reads as it did. -/
def keysComparesSpec : ChangeSpec := { name := "keysCompares", fn := fun _ => fun
  | [d1, d2] => { results := [.lit (.bool true)], args := [d1, d2] }
  | _ => none }
def keysComparesRow : OpenClaim := { program := "ytplfmpcoojkjlaa", sum := "bfedce2b8d3bde520907c072d27666b0269e770f60871dc9a95913fae778f681", func := "haulage/haulagelaw04.KeysCompares", spec := "keysCompares", inPlace := ["math.Float64frombits", "math.Float64bits", "internal/bytealg.Compare"], recurses := true, loops := true, apart := false }
def KeysComparesSaid : Prop := keysComparesRow.holds Try.pinned (OpenSpec.ofChange keysComparesSpec)

/-- ITS FALSE NEIGHBOUR: 'it returns false'. Refute it at one input. -/
def keysComparesWrong : ChangeSpec := { name := "keysCompares", fn := fun _ => fun
  | [d1, d2] => { results := [.lit (.bool false)], args := [d1, d2] }
  | _ => none }
def KeysComparesWrongFalsely : Prop := keysComparesRow.holds Try.pinned (OpenSpec.ofChange keysComparesWrong)

/- THE SECOND FORM. 'bulk': how many values and letters a reading holds, each counted each time it is reached (what is shared counts as often as it is met; a slice's spare places count too). A statement '..UptoSaid' is the law's where the arguments, and the package variables that the reading takes, are together of bulk at most 1048576: NARROWER than '..Said'. Prove '..Said' where nothing that the law and all that it calls make is longer than what came in: it says more and counts as full. Else prove '..UptoSaid'. A law counts once. -/
mutual
def uptoBulk {H : Type} : DataW H → Nat
  | .lit (.string bytes) => bytes.length + 1
  | .lit _ => 1
  | .nil => 1
  | .ptr d => uptoBulk d + 1
  | .slice elems spare => uptoBulkAll elems + uptoBulkAll spare + 1
  | .agg parts => uptoBulkAll parts + 1
  | .iface _ d => uptoBulk d + 1
  | .map entries => uptoBulkEntries entries + 1
  | .held _ => 1
def uptoBulkAll {H : Type} : List (DataW H) → Nat
  | [] => 0
  | d :: r => uptoBulk d + uptoBulkAll r
def uptoBulkEntries {H : Type} : List (Lit × DataW H) → Nat
  | [] => 0
  | x :: r => uptoBulkEntry x + uptoBulkEntries r
def uptoBulkEntry {H : Type} : Lit × DataW H → Nat
  | (.string bytes, d) => bytes.length + uptoBulk d + 1
  | (_, d) => uptoBulk d + 1
 end
def uptoSmall : (H : Type) → List (DataW H) → Bool := fun _ ds => decide (uptoBulkAll ds ≤ 1048576)
def OpenSpec.upto (s : _root_.Go.ChangeSpec) : _root_.Go.OpenSpec := { _root_.Go.OpenSpec.ofChange s with cond := some uptoSmall }

/-- 'haulagelaw04.KeysReads', WHERE WHAT IT READS IS OF BULK AT MOST 1048576: true; the input reads as it did. -/
def keysReadsUptoRow : OpenClaim := { program := "ytplfmpcoojkjlaa", sum := "bfedce2b8d3bde520907c072d27666b0269e770f60871dc9a95913fae778f681", func := "haulage/haulagelaw04.KeysReads", spec := "keysReads", inPlace := ["math.Float64frombits", "internal/bytealg.IndexByte", "math.Float64bits"], unfollowed := true, recurses := true, apart := false, narrowed := true }
def KeysReadsUptoSaid : Prop := keysReadsUptoRow.holds Try.pinned (OpenSpec.upto keysReadsSpec)

/-- 'haulagelaw04.KeysCompares', WHERE WHAT IT READS IS OF BULK AT MOST 1048576: true; the input reads as it did. -/
def keysComparesUptoRow : OpenClaim := { program := "ytplfmpcoojkjlaa", sum := "bfedce2b8d3bde520907c072d27666b0269e770f60871dc9a95913fae778f681", func := "haulage/haulagelaw04.KeysCompares", spec := "keysCompares", inPlace := ["math.Float64frombits", "math.Float64bits", "internal/bytealg.Compare"], recurses := true, loops := true, apart := false, narrowed := true }
def KeysComparesUptoSaid : Prop := keysComparesUptoRow.holds Try.pinned (OpenSpec.upto keysComparesSpec)

end Rows
end Go.Proofs.Ytplfmpcoojkjlaa
