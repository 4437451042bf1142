/-
  NARROWER THAN 'FOR EVERY INPUT', by the rows' own cells (each row's printed sentence says how): DocTells: loops · DocJoins: loops.
  DERIVED. THE GIVEN ROWS OF THIS SEAT. 4 by the template 'for every input the law returns true; each argument reads behind the call as it read before'; 0 by the template 'total and deterministic' (their statements: YtplmenljhkokgaaTotals.lean).
  GIVEN WITH THE SEED: the statements are not yours to turn. If you find one false, say at which input.
  Laid BY PROGRAM, IN A SANDBOX (cutbox-rows.mjs): the forced cells as the released guide's own fill.sh prints them over the translation e93e91a4855bea07… (all of the seat's roots in one cut). By AI agents, Wed Nov 11 2026. No macro, syntax, notation, axiom, sorry.
-/
import Derived.Test.YtplmenljhkokgaaChecked
import GoSem.Claim
import GoSem.ClaimJoined
import GoSem.ClaimMapViews
import Derived.JoinedTies
import Derived.KernelRfl
namespace Go.Proofs.Ytplmenljhkokgaa
/- THE CELL 'sum', in the pinned program and in every row, IS THE sha256 OF THE DUMP (.gsa) THAT YtplmenljhkokgaaProg.lean LOADS. Nothing in Lean hashes anything: it is a label: what it is worth is what the hold of that sum in a sandbox is worth. -/
noncomputable def Try.pinned : Pinned := { name := "ytplmenljhkokgaa", sum := "e93e91a4855bea07b5d249a3969eeab8550febb64184645960fa7599eaea1e57", checked := Try.checked }
namespace Rows
def none {H : Type} : Left H := { results := [], args := [] }

/-- 'abridgerlaw10.DocTells': WHATEVER THE INPUT: true; the input reads as it did. -/
def docTellsSpec : ChangeSpec := { name := "docTells", fn := fun _ => fun
  | [d1, d2, d3, d4] => { results := [.lit (.bool true)], args := [d1, d2, d3, d4] }
  | _ => none }
def docTellsRow : OpenClaim := { program := "ytplmenljhkokgaa", sum := "e93e91a4855bea07b5d249a3969eeab8550febb64184645960fa7599eaea1e57", func := "abridger/abridgerlaw10.DocTells", spec := "docTells", inPlace := ["internal/abi.NoEscape"], unfollowed := true, recurses := true, loops := true, apart := false }
def DocTellsSaid : Prop := docTellsRow.holds Try.pinned (OpenSpec.ofChange docTellsSpec)

/-- ITS FALSE NEIGHBOUR: 'it returns false'. Refute it at one input. -/
def docTellsWrong : ChangeSpec := { name := "docTells", fn := fun _ => fun
  | [d1, d2, d3, d4] => { results := [.lit (.bool false)], args := [d1, d2, d3, d4] }
  | _ => none }
def DocTellsWrongFalsely : Prop := docTellsRow.holds Try.pinned (OpenSpec.ofChange docTellsWrong)

/-- 'abridgerlaw10.DocJoins': WHATEVER THE INPUT: true; the input reads as it did. -/
def docJoinsSpec : ChangeSpec := { name := "docJoins", fn := fun _ => fun
  | [d1, d2, d3] => { results := [.lit (.bool true)], args := [d1, d2, d3] }
  | _ => none }
def docJoinsRow : OpenClaim := { program := "ytplmenljhkokgaa", sum := "e93e91a4855bea07b5d249a3969eeab8550febb64184645960fa7599eaea1e57", func := "abridger/abridgerlaw10.DocJoins", spec := "docJoins", inPlace := ["internal/abi.NoEscape"], unfollowed := true, recurses := true, loops := true, apart := false }
def DocJoinsSaid : Prop := docJoinsRow.holds Try.pinned (OpenSpec.ofChange docJoinsSpec)

/-- ITS FALSE NEIGHBOUR: 'it returns false'. Refute it at one input. -/
def docJoinsWrong : ChangeSpec := { name := "docJoins", fn := fun _ => fun
  | [d1, d2, d3] => { results := [.lit (.bool false)], args := [d1, d2, d3] }
  | _ => none }
def DocJoinsWrongFalsely : Prop := docJoinsRow.holds Try.pinned (OpenSpec.ofChange docJoinsWrong)

/-- 'abridgerlaw10.DocWide': WHATEVER THE INPUT: true; the input reads as it did. -/
def docWideSpec : ChangeSpec := { name := "docWide", fn := fun _ => fun
  | [d] => { results := [.lit (.bool true)], args := [d] }
  | _ => none }
def docWideRow : OpenClaim := { program := "ytplmenljhkokgaa", sum := "e93e91a4855bea07b5d249a3969eeab8550febb64184645960fa7599eaea1e57", func := "abridger/abridgerlaw10.DocWide", spec := "docWide", inPlace := ["internal/abi.NoEscape"], unfollowed := true, recurses := true, apart := false }
def DocWideSaid : Prop := docWideRow.holds Try.pinned (OpenSpec.ofChange docWideSpec)

/-- ITS FALSE NEIGHBOUR: 'it returns false'. Refute it at one input. -/
def docWideWrong : ChangeSpec := { name := "docWide", fn := fun _ => fun
  | [d] => { results := [.lit (.bool false)], args := [d] }
  | _ => none }
def DocWideWrongFalsely : Prop := docWideRow.holds Try.pinned (OpenSpec.ofChange docWideWrong)

/-- 'abridgerlaw10.DocDeep': WHATEVER THE INPUT: true; the input reads as it did. -/
def docDeepSpec : ChangeSpec := { name := "docDeep", fn := fun _ => fun
  | [d1, d2] => { results := [.lit (.bool true)], args := [d1, d2] }
  | _ => none }
def docDeepRow : OpenClaim := { program := "ytplmenljhkokgaa", sum := "e93e91a4855bea07b5d249a3969eeab8550febb64184645960fa7599eaea1e57", func := "abridger/abridgerlaw10.DocDeep", spec := "docDeep", inPlace := ["internal/abi.NoEscape"], unfollowed := true, recurses := true, apart := false }
def DocDeepSaid : Prop := docDeepRow.holds Try.pinned (OpenSpec.ofChange docDeepSpec)

/-- ITS FALSE NEIGHBOUR: 'it returns false'. Refute it at one input. -/
def docDeepWrong : ChangeSpec := { name := "docDeep", fn := fun _ => fun
  | [d1, d2] => { results := [.lit (.bool false)], args := [d1, d2] }
  | _ => none }
def DocDeepWrongFalsely : Prop := docDeepRow.holds Try.pinned (OpenSpec.ofChange docDeepWrong)

/- THE SECOND FORM. 'bulk': how many values and letters a reading holds, each counted each time it is reached (what is shared counts as often as it is met; a slice's spare places count too). A statement '..UptoSaid' is the law's where the arguments, and the package variables that the reading takes, are together of bulk at most 1048576: NARROWER than '..Said'. Prove '..Said' where nothing that the law and all that it calls make is longer than what came in: it says more and counts as full. Else prove '..UptoSaid'. A law counts once. -/
mutual
def uptoBulk {H : Type} : DataW H → Nat
  | .lit (.string bytes) => bytes.length + 1
  | .lit _ => 1
  | .nil => 1
  | .ptr d => uptoBulk d + 1
  | .slice elems spare => uptoBulkAll elems + uptoBulkAll spare + 1
  | .agg parts => uptoBulkAll parts + 1
  | .iface _ d => uptoBulk d + 1
  | .map entries => uptoBulkEntries entries + 1
  | .held _ => 1
def uptoBulkAll {H : Type} : List (DataW H) → Nat
  | [] => 0
  | d :: r => uptoBulk d + uptoBulkAll r
def uptoBulkEntries {H : Type} : List (Lit × DataW H) → Nat
  | [] => 0
  | x :: r => uptoBulkEntry x + uptoBulkEntries r
def uptoBulkEntry {H : Type} : Lit × DataW H → Nat
  | (.string bytes, d) => bytes.length + uptoBulk d + 1
  | (_, d) => uptoBulk d + 1
 end
def uptoSmall : (H : Type) → List (DataW H) → Bool := fun _ ds => decide (uptoBulkAll ds ≤ 1048576)
def OpenSpec.upto (s : _root_.Go.ChangeSpec) : _root_.Go.OpenSpec := { _root_.Go.OpenSpec.ofChange s with cond := some uptoSmall }

/-- 'abridgerlaw10.DocTells', WHERE WHAT IT READS IS OF BULK AT MOST 1048576: true; the input reads as it did. -/
def docTellsUptoRow : OpenClaim := { program := "ytplmenljhkokgaa", sum := "e93e91a4855bea07b5d249a3969eeab8550febb64184645960fa7599eaea1e57", func := "abridger/abridgerlaw10.DocTells", spec := "docTells", inPlace := ["internal/abi.NoEscape"], unfollowed := true, recurses := true, loops := true, apart := false, narrowed := true }
def DocTellsUptoSaid : Prop := docTellsUptoRow.holds Try.pinned (OpenSpec.upto docTellsSpec)

/-- 'abridgerlaw10.DocJoins', WHERE WHAT IT READS IS OF BULK AT MOST 1048576: true; the input reads as it did. -/
def docJoinsUptoRow : OpenClaim := { program := "ytplmenljhkokgaa", sum := "e93e91a4855bea07b5d249a3969eeab8550febb64184645960fa7599eaea1e57", func := "abridger/abridgerlaw10.DocJoins", spec := "docJoins", inPlace := ["internal/abi.NoEscape"], unfollowed := true, recurses := true, loops := true, apart := false, narrowed := true }
def DocJoinsUptoSaid : Prop := docJoinsUptoRow.holds Try.pinned (OpenSpec.upto docJoinsSpec)

/-- 'abridgerlaw10.DocWide', WHERE WHAT IT READS IS OF BULK AT MOST 1048576: true; the input reads as it did. -/
def docWideUptoRow : OpenClaim := { program := "ytplmenljhkokgaa", sum := "e93e91a4855bea07b5d249a3969eeab8550febb64184645960fa7599eaea1e57", func := "abridger/abridgerlaw10.DocWide", spec := "docWide", inPlace := ["internal/abi.NoEscape"], unfollowed := true, recurses := true, apart := false, narrowed := true }
def DocWideUptoSaid : Prop := docWideUptoRow.holds Try.pinned (OpenSpec.upto docWideSpec)

/-- 'abridgerlaw10.DocDeep', WHERE WHAT IT READS IS OF BULK AT MOST 1048576: true; the input reads as it did. -/
def docDeepUptoRow : OpenClaim := { program := "ytplmenljhkokgaa", sum := "e93e91a4855bea07b5d249a3969eeab8550febb64184645960fa7599eaea1e57", func := "abridger/abridgerlaw10.DocDeep", spec := "docDeep", inPlace := ["internal/abi.NoEscape"], unfollowed := true, recurses := true, apart := false, narrowed := true }
def DocDeepUptoSaid : Prop := docDeepUptoRow.holds Try.pinned (OpenSpec.upto docDeepSpec)

end Rows
end Go.Proofs.Ytplmenljhkokgaa
