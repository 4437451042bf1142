/-
  No cell of these rows narrows 'for every input' (looked for: loops, veiled, ifaces, maps, wideKeys, modest, calm, conditions, laid).
  DERIVED. THE GIVEN ROWS OF THIS SEAT. 5 by the template 'for every input the law returns true; each argument reads behind the call as it read before'; 0 by the template 'total and deterministic' (their statements: YtcioifijkonplaaTotals.lean).
  GIVEN WITH THE SEED: the statements are not yours to turn. If you find one false, say at which input.
  Laid BY PROGRAM, IN A SANDBOX (cutbox-rows.mjs): the forced cells as the released guide's own fill.sh prints them over the translation c126d3e3281615b7… (all of the seat's roots in one cut). By AI agents, Wed Nov 11 2026. No macro, syntax, notation, axiom, sorry.
-/
import Derived.Test.YtcioifijkonplaaChecked
import GoSem.Claim
import GoSem.ClaimJoined
import GoSem.ClaimMapViews
import Derived.JoinedTies
import Derived.KernelRfl
namespace Go.Proofs.Ytcioifijkonplaa
/- THE CELL 'sum', in the pinned program and in every row, IS THE sha256 OF THE DUMP (.gsa) THAT YtcioifijkonplaaProg.lean LOADS. Nothing in Lean hashes anything: it is a label: what it is worth is what the hold of that sum in a sandbox is worth. -/
noncomputable def Try.pinned : Pinned := { name := "ytcioifijkonplaa", sum := "c126d3e3281615b7496c71553e21d820d09077fbb9e97f016c7ae9bf12f83da1", checked := Try.checked }
namespace Rows
def none {H : Type} : Left H := { results := [], args := [] }

/-- 'abridgerlaw8.JstringTells': WHATEVER THE INPUT: true; the input reads as it did. -/
def jstringTellsSpec : ChangeSpec := { name := "jstringTells", fn := fun _ => fun
  | [d] => { results := [.lit (.bool true)], args := [d] }
  | _ => none }
def jstringTellsRow : OpenClaim := { program := "ytcioifijkonplaa", sum := "c126d3e3281615b7496c71553e21d820d09077fbb9e97f016c7ae9bf12f83da1", func := "abridger/abridgerlaw8.JstringTells", spec := "jstringTells", inPlace := ["internal/abi.NoEscape", "internal/bytealg.IndexByteString"], unfollowed := true, recurses := true, apart := false }
def JstringTellsSaid : Prop := jstringTellsRow.holds Try.pinned (OpenSpec.ofChange jstringTellsSpec)

/-- ITS FALSE NEIGHBOUR: 'it returns false'. Refute it at one input. -/
def jstringTellsWrong : ChangeSpec := { name := "jstringTells", fn := fun _ => fun
  | [d] => { results := [.lit (.bool false)], args := [d] }
  | _ => none }
def JstringTellsWrongFalsely : Prop := jstringTellsRow.holds Try.pinned (OpenSpec.ofChange jstringTellsWrong)

/-- 'abridgerlaw8.JstringBack': WHATEVER THE INPUT: true; the input reads as it did. -/
def jstringBackSpec : ChangeSpec := { name := "jstringBack", fn := fun _ => fun
  | [d] => { results := [.lit (.bool true)], args := [d] }
  | _ => none }
def jstringBackRow : OpenClaim := { program := "ytcioifijkonplaa", sum := "c126d3e3281615b7496c71553e21d820d09077fbb9e97f016c7ae9bf12f83da1", func := "abridger/abridgerlaw8.JstringBack", spec := "jstringBack", inPlace := ["internal/abi.NoEscape", "internal/bytealg.IndexByteString"], unfollowed := true, recurses := true, apart := false }
def JstringBackSaid : Prop := jstringBackRow.holds Try.pinned (OpenSpec.ofChange jstringBackSpec)

/-- ITS FALSE NEIGHBOUR: 'it returns false'. Refute it at one input. -/
def jstringBackWrong : ChangeSpec := { name := "jstringBack", fn := fun _ => fun
  | [d] => { results := [.lit (.bool false)], args := [d] }
  | _ => none }
def JstringBackWrongFalsely : Prop := jstringBackRow.holds Try.pinned (OpenSpec.ofChange jstringBackWrong)

/-- 'abridgerlaw8.JstringLeast': WHATEVER THE INPUT: true; the input reads as it did. -/
def jstringLeastSpec : ChangeSpec := { name := "jstringLeast", fn := fun _ => fun
  | [d] => { results := [.lit (.bool true)], args := [d] }
  | _ => none }
def jstringLeastRow : OpenClaim := { program := "ytcioifijkonplaa", sum := "c126d3e3281615b7496c71553e21d820d09077fbb9e97f016c7ae9bf12f83da1", func := "abridger/abridgerlaw8.JstringLeast", spec := "jstringLeast", inPlace := ["internal/abi.NoEscape", "internal/bytealg.IndexByteString"], unfollowed := true, recurses := true, apart := false }
def JstringLeastSaid : Prop := jstringLeastRow.holds Try.pinned (OpenSpec.ofChange jstringLeastSpec)

/-- ITS FALSE NEIGHBOUR: 'it returns false'. Refute it at one input. -/
def jstringLeastWrong : ChangeSpec := { name := "jstringLeast", fn := fun _ => fun
  | [d] => { results := [.lit (.bool false)], args := [d] }
  | _ => none }
def JstringLeastWrongFalsely : Prop := jstringLeastRow.holds Try.pinned (OpenSpec.ofChange jstringLeastWrong)

/-- 'abridgerlaw8.JstringJoins': WHATEVER THE INPUT: true; the input reads as it did. -/
def jstringJoinsSpec : ChangeSpec := { name := "jstringJoins", fn := fun _ => fun
  | [d1, d2] => { results := [.lit (.bool true)], args := [d1, d2] }
  | _ => none }
def jstringJoinsRow : OpenClaim := { program := "ytcioifijkonplaa", sum := "c126d3e3281615b7496c71553e21d820d09077fbb9e97f016c7ae9bf12f83da1", func := "abridger/abridgerlaw8.JstringJoins", spec := "jstringJoins", inPlace := ["internal/abi.NoEscape", "internal/bytealg.IndexByteString"], unfollowed := true, recurses := true, apart := false }
def JstringJoinsSaid : Prop := jstringJoinsRow.holds Try.pinned (OpenSpec.ofChange jstringJoinsSpec)

/-- ITS FALSE NEIGHBOUR: 'it returns false'. Refute it at one input. -/
def jstringJoinsWrong : ChangeSpec := { name := "jstringJoins", fn := fun _ => fun
  | [d1, d2] => { results := [.lit (.bool false)], args := [d1, d2] }
  | _ => none }
def JstringJoinsWrongFalsely : Prop := jstringJoinsRow.holds Try.pinned (OpenSpec.ofChange jstringJoinsWrong)

/-- 'abridgerlaw8.JstringEach': WHATEVER THE INPUT: true; the input reads as it did. -/
def jstringEachSpec : ChangeSpec := { name := "jstringEach", fn := fun _ => fun
  | [d] => { results := [.lit (.bool true)], args := [d] }
  | _ => none }
def jstringEachRow : OpenClaim := { program := "ytcioifijkonplaa", sum := "c126d3e3281615b7496c71553e21d820d09077fbb9e97f016c7ae9bf12f83da1", func := "abridger/abridgerlaw8.JstringEach", spec := "jstringEach", inPlace := ["internal/abi.NoEscape", "internal/bytealg.IndexByteString"], unfollowed := true, recurses := true, apart := false }
def JstringEachSaid : Prop := jstringEachRow.holds Try.pinned (OpenSpec.ofChange jstringEachSpec)

/-- ITS FALSE NEIGHBOUR: 'it returns false'. Refute it at one input. -/
def jstringEachWrong : ChangeSpec := { name := "jstringEach", fn := fun _ => fun
  | [d] => { results := [.lit (.bool false)], args := [d] }
  | _ => none }
def JstringEachWrongFalsely : Prop := jstringEachRow.holds Try.pinned (OpenSpec.ofChange jstringEachWrong)

/- THE SECOND FORM. 'bulk': how many values and letters a reading holds, each counted each time it is reached (what is shared counts as often as it is met; a slice's spare places count too). A statement '..UptoSaid' is the law's where the arguments, and the package variables that the reading takes, are together of bulk at most 1048576: NARROWER than '..Said'. Prove '..Said' where nothing that the law and all that it calls make is longer than what came in: it says more and counts as full. Else prove '..UptoSaid'. A law counts once. -/
mutual
def uptoBulk {H : Type} : DataW H → Nat
  | .lit (.string bytes) => bytes.length + 1
  | .lit _ => 1
  | .nil => 1
  | .ptr d => uptoBulk d + 1
  | .slice elems spare => uptoBulkAll elems + uptoBulkAll spare + 1
  | .agg parts => uptoBulkAll parts + 1
  | .iface _ d => uptoBulk d + 1
  | .map entries => uptoBulkEntries entries + 1
  | .held _ => 1
def uptoBulkAll {H : Type} : List (DataW H) → Nat
  | [] => 0
  | d :: r => uptoBulk d + uptoBulkAll r
def uptoBulkEntries {H : Type} : List (Lit × DataW H) → Nat
  | [] => 0
  | x :: r => uptoBulkEntry x + uptoBulkEntries r
def uptoBulkEntry {H : Type} : Lit × DataW H → Nat
  | (.string bytes, d) => bytes.length + uptoBulk d + 1
  | (_, d) => uptoBulk d + 1
 end
def uptoSmall : (H : Type) → List (DataW H) → Bool := fun _ ds => decide (uptoBulkAll ds ≤ 1048576)
def OpenSpec.upto (s : _root_.Go.ChangeSpec) : _root_.Go.OpenSpec := { _root_.Go.OpenSpec.ofChange s with cond := some uptoSmall }

/-- 'abridgerlaw8.JstringTells', WHERE WHAT IT READS IS OF BULK AT MOST 1048576: true; the input reads as it did. -/
def jstringTellsUptoRow : OpenClaim := { program := "ytcioifijkonplaa", sum := "c126d3e3281615b7496c71553e21d820d09077fbb9e97f016c7ae9bf12f83da1", func := "abridger/abridgerlaw8.JstringTells", spec := "jstringTells", inPlace := ["internal/abi.NoEscape", "internal/bytealg.IndexByteString"], unfollowed := true, recurses := true, apart := false, narrowed := true }
def JstringTellsUptoSaid : Prop := jstringTellsUptoRow.holds Try.pinned (OpenSpec.upto jstringTellsSpec)

/-- 'abridgerlaw8.JstringBack', WHERE WHAT IT READS IS OF BULK AT MOST 1048576: true; the input reads as it did. -/
def jstringBackUptoRow : OpenClaim := { program := "ytcioifijkonplaa", sum := "c126d3e3281615b7496c71553e21d820d09077fbb9e97f016c7ae9bf12f83da1", func := "abridger/abridgerlaw8.JstringBack", spec := "jstringBack", inPlace := ["internal/abi.NoEscape", "internal/bytealg.IndexByteString"], unfollowed := true, recurses := true, apart := false, narrowed := true }
def JstringBackUptoSaid : Prop := jstringBackUptoRow.holds Try.pinned (OpenSpec.upto jstringBackSpec)

/-- 'abridgerlaw8.JstringLeast', WHERE WHAT IT READS IS OF BULK AT MOST 1048576: true; the input reads as it did. -/
def jstringLeastUptoRow : OpenClaim := { program := "ytcioifijkonplaa", sum := "c126d3e3281615b7496c71553e21d820d09077fbb9e97f016c7ae9bf12f83da1", func := "abridger/abridgerlaw8.JstringLeast", spec := "jstringLeast", inPlace := ["internal/abi.NoEscape", "internal/bytealg.IndexByteString"], unfollowed := true, recurses := true, apart := false, narrowed := true }
def JstringLeastUptoSaid : Prop := jstringLeastUptoRow.holds Try.pinned (OpenSpec.upto jstringLeastSpec)

/-- 'abridgerlaw8.JstringJoins', WHERE WHAT IT READS IS OF BULK AT MOST 1048576: true; the input reads as it did. -/
def jstringJoinsUptoRow : OpenClaim := { program := "ytcioifijkonplaa", sum := "c126d3e3281615b7496c71553e21d820d09077fbb9e97f016c7ae9bf12f83da1", func := "abridger/abridgerlaw8.JstringJoins", spec := "jstringJoins", inPlace := ["internal/abi.NoEscape", "internal/bytealg.IndexByteString"], unfollowed := true, recurses := true, apart := false, narrowed := true }
def JstringJoinsUptoSaid : Prop := jstringJoinsUptoRow.holds Try.pinned (OpenSpec.upto jstringJoinsSpec)

/-- 'abridgerlaw8.JstringEach', WHERE WHAT IT READS IS OF BULK AT MOST 1048576: true; the input reads as it did. -/
def jstringEachUptoRow : OpenClaim := { program := "ytcioifijkonplaa", sum := "c126d3e3281615b7496c71553e21d820d09077fbb9e97f016c7ae9bf12f83da1", func := "abridger/abridgerlaw8.JstringEach", spec := "jstringEach", inPlace := ["internal/abi.NoEscape", "internal/bytealg.IndexByteString"], unfollowed := true, recurses := true, apart := false, narrowed := true }
def JstringEachUptoSaid : Prop := jstringEachUptoRow.holds Try.pinned (OpenSpec.upto jstringEachSpec)

end Rows
end Go.Proofs.Ytcioifijkonplaa
