/-
  No cell of these rows narrows 'for every input' (looked for: loops, veiled, ifaces, maps, wideKeys, modest, calm, conditions, laid).
  DERIVED. THE GIVEN ROWS OF THIS SEAT. 4 by the template 'for every input the law returns true; each argument reads behind the call as it read before'; 0 by the template 'total and deterministic' (their statements: YtgbialeahdoelaaTotals.lean).
  GIVEN WITH THE SEED: the statements are not yours to turn. If you find one false, say at which input.
  Laid BY PROGRAM, IN A SANDBOX (cutbox-rows.mjs): the forced cells as the released guide's own fill.sh prints them over the translation 6fe260ee576ed33c… (all of the seat's roots in one cut). By AI agents, Wed Nov 11 2026. No macro, syntax, notation, axiom, sorry.
-/
import Derived.Test.YtgbialeahdoelaaChecked
import GoSem.Claim
import GoSem.ClaimJoined
import GoSem.ClaimMapViews
import Derived.JoinedTies
import Derived.KernelRfl
namespace Go.Proofs.Ytgbialeahdoelaa
/- THE CELL 'sum', in the pinned program and in every row, IS THE sha256 OF THE DUMP (.gsa) THAT YtgbialeahdoelaaProg.lean LOADS. Nothing in Lean hashes anything: it is a label: what it is worth is what the hold of that sum in a sandbox is worth. -/
noncomputable def Try.pinned : Pinned := { name := "ytgbialeahdoelaa", sum := "6fe260ee576ed33c0817cc5cd509bd4bbbd03fd85fa6b8a8d5aa532e7415ec40", checked := Try.checked }
namespace Rows
def none {H : Type} : Left H := { results := [], args := [] }

/-- 'abridgerlaw24.SmapTells': WHATEVER THE INPUT: true; the input reads as it did. -/
def smapTellsSpec : ChangeSpec := { name := "smapTells", fn := fun _ => fun
  | [d1, d2] => { results := [.lit (.bool true)], args := [d1, d2] }
  | _ => none }
def smapTellsRow : OpenClaim := { program := "ytgbialeahdoelaa", sum := "6fe260ee576ed33c0817cc5cd509bd4bbbd03fd85fa6b8a8d5aa532e7415ec40", func := "abridger/abridgerlaw24.SmapTells", spec := "smapTells", inPlace := ["internal/abi.NoEscape", "internal/bytealg.MakeNoZero", "internal/bytealg.IndexByteString"], unfollowed := true, recurses := true, apart := false }
def SmapTellsSaid : Prop := smapTellsRow.holds Try.pinned (OpenSpec.ofChange smapTellsSpec)

/-- ITS FALSE NEIGHBOUR: 'it returns false'. Refute it at one input. -/
def smapTellsWrong : ChangeSpec := { name := "smapTells", fn := fun _ => fun
  | [d1, d2] => { results := [.lit (.bool false)], args := [d1, d2] }
  | _ => none }
def SmapTellsWrongFalsely : Prop := smapTellsRow.holds Try.pinned (OpenSpec.ofChange smapTellsWrong)

/-- 'abridgerlaw24.SmapJson': WHATEVER THE INPUT: true; the input reads as it did. -/
def smapJsonSpec : ChangeSpec := { name := "smapJson", fn := fun _ => fun
  | [d1, d2] => { results := [.lit (.bool true)], args := [d1, d2] }
  | _ => none }
def smapJsonRow : OpenClaim := { program := "ytgbialeahdoelaa", sum := "6fe260ee576ed33c0817cc5cd509bd4bbbd03fd85fa6b8a8d5aa532e7415ec40", func := "abridger/abridgerlaw24.SmapJson", spec := "smapJson", inPlace := ["internal/abi.NoEscape", "internal/bytealg.MakeNoZero", "internal/bytealg.IndexByteString"], unfollowed := true, recurses := true, apart := false }
def SmapJsonSaid : Prop := smapJsonRow.holds Try.pinned (OpenSpec.ofChange smapJsonSpec)

/-- ITS FALSE NEIGHBOUR: 'it returns false'. Refute it at one input. -/
def smapJsonWrong : ChangeSpec := { name := "smapJson", fn := fun _ => fun
  | [d1, d2] => { results := [.lit (.bool false)], args := [d1, d2] }
  | _ => none }
def SmapJsonWrongFalsely : Prop := smapJsonRow.holds Try.pinned (OpenSpec.ofChange smapJsonWrong)

/-- 'abridgerlaw24.SmapWrong': WHATEVER THE INPUT: true; the input reads as it did. -/
def smapWrongSpec : ChangeSpec := { name := "smapWrong", fn := fun _ => fun
  | [d] => { results := [.lit (.bool true)], args := [d] }
  | _ => none }
def smapWrongRow : OpenClaim := { program := "ytgbialeahdoelaa", sum := "6fe260ee576ed33c0817cc5cd509bd4bbbd03fd85fa6b8a8d5aa532e7415ec40", func := "abridger/abridgerlaw24.SmapWrong", spec := "smapWrong", inPlace := ["internal/abi.NoEscape", "internal/bytealg.MakeNoZero", "internal/bytealg.IndexByteString"], unfollowed := true, recurses := true, apart := false }
def SmapWrongSaid : Prop := smapWrongRow.holds Try.pinned (OpenSpec.ofChange smapWrongSpec)

/-- ITS FALSE NEIGHBOUR: 'it returns false'. Refute it at one input. -/
def smapWrongWrong : ChangeSpec := { name := "smapWrong", fn := fun _ => fun
  | [d] => { results := [.lit (.bool false)], args := [d] }
  | _ => none }
def SmapWrongWrongFalsely : Prop := smapWrongRow.holds Try.pinned (OpenSpec.ofChange smapWrongWrong)

/-- 'abridgerlaw24.SmapShift': WHATEVER THE INPUT: true; the input reads as it did. -/
def smapShiftSpec : ChangeSpec := { name := "smapShift", fn := fun _ => fun
  | [d1, d2, d3] => { results := [.lit (.bool true)], args := [d1, d2, d3] }
  | _ => none }
def smapShiftRow : OpenClaim := { program := "ytgbialeahdoelaa", sum := "6fe260ee576ed33c0817cc5cd509bd4bbbd03fd85fa6b8a8d5aa532e7415ec40", func := "abridger/abridgerlaw24.SmapShift", spec := "smapShift", inPlace := ["internal/abi.NoEscape", "internal/bytealg.MakeNoZero", "internal/bytealg.IndexByteString"], unfollowed := true, recurses := true, apart := false }
def SmapShiftSaid : Prop := smapShiftRow.holds Try.pinned (OpenSpec.ofChange smapShiftSpec)

/-- ITS FALSE NEIGHBOUR: 'it returns false'. Refute it at one input. -/
def smapShiftWrong : ChangeSpec := { name := "smapShift", fn := fun _ => fun
  | [d1, d2, d3] => { results := [.lit (.bool false)], args := [d1, d2, d3] }
  | _ => none }
def SmapShiftWrongFalsely : Prop := smapShiftRow.holds Try.pinned (OpenSpec.ofChange smapShiftWrong)

/- THE SECOND FORM. 'bulk': how many values and letters a reading holds, each counted each time it is reached (what is shared counts as often as it is met; a slice's spare places count too). A statement '..UptoSaid' is the law's where the arguments, and the package variables that the reading takes, are together of bulk at most 1048576: NARROWER than '..Said'. Prove '..Said' where nothing that the law and all that it calls make is longer than what came in: it says more and counts as full. Else prove '..UptoSaid'. A law counts once. -/
mutual
def uptoBulk {H : Type} : DataW H → Nat
  | .lit (.string bytes) => bytes.length + 1
  | .lit _ => 1
  | .nil => 1
  | .ptr d => uptoBulk d + 1
  | .slice elems spare => uptoBulkAll elems + uptoBulkAll spare + 1
  | .agg parts => uptoBulkAll parts + 1
  | .iface _ d => uptoBulk d + 1
  | .map entries => uptoBulkEntries entries + 1
  | .held _ => 1
def uptoBulkAll {H : Type} : List (DataW H) → Nat
  | [] => 0
  | d :: r => uptoBulk d + uptoBulkAll r
def uptoBulkEntries {H : Type} : List (Lit × DataW H) → Nat
  | [] => 0
  | x :: r => uptoBulkEntry x + uptoBulkEntries r
def uptoBulkEntry {H : Type} : Lit × DataW H → Nat
  | (.string bytes, d) => bytes.length + uptoBulk d + 1
  | (_, d) => uptoBulk d + 1
 end
def uptoSmall : (H : Type) → List (DataW H) → Bool := fun _ ds => decide (uptoBulkAll ds ≤ 1048576)
def OpenSpec.upto (s : _root_.Go.ChangeSpec) : _root_.Go.OpenSpec := { _root_.Go.OpenSpec.ofChange s with cond := some uptoSmall }

/-- 'abridgerlaw24.SmapTells', WHERE WHAT IT READS IS OF BULK AT MOST 1048576: true; the input reads as it did. -/
def smapTellsUptoRow : OpenClaim := { program := "ytgbialeahdoelaa", sum := "6fe260ee576ed33c0817cc5cd509bd4bbbd03fd85fa6b8a8d5aa532e7415ec40", func := "abridger/abridgerlaw24.SmapTells", spec := "smapTells", inPlace := ["internal/abi.NoEscape", "internal/bytealg.MakeNoZero", "internal/bytealg.IndexByteString"], unfollowed := true, recurses := true, apart := false, narrowed := true }
def SmapTellsUptoSaid : Prop := smapTellsUptoRow.holds Try.pinned (OpenSpec.upto smapTellsSpec)

/-- 'abridgerlaw24.SmapJson', WHERE WHAT IT READS IS OF BULK AT MOST 1048576: true; the input reads as it did. -/
def smapJsonUptoRow : OpenClaim := { program := "ytgbialeahdoelaa", sum := "6fe260ee576ed33c0817cc5cd509bd4bbbd03fd85fa6b8a8d5aa532e7415ec40", func := "abridger/abridgerlaw24.SmapJson", spec := "smapJson", inPlace := ["internal/abi.NoEscape", "internal/bytealg.MakeNoZero", "internal/bytealg.IndexByteString"], unfollowed := true, recurses := true, apart := false, narrowed := true }
def SmapJsonUptoSaid : Prop := smapJsonUptoRow.holds Try.pinned (OpenSpec.upto smapJsonSpec)

/-- 'abridgerlaw24.SmapWrong', WHERE WHAT IT READS IS OF BULK AT MOST 1048576: true; the input reads as it did. -/
def smapWrongUptoRow : OpenClaim := { program := "ytgbialeahdoelaa", sum := "6fe260ee576ed33c0817cc5cd509bd4bbbd03fd85fa6b8a8d5aa532e7415ec40", func := "abridger/abridgerlaw24.SmapWrong", spec := "smapWrong", inPlace := ["internal/abi.NoEscape", "internal/bytealg.MakeNoZero", "internal/bytealg.IndexByteString"], unfollowed := true, recurses := true, apart := false, narrowed := true }
def SmapWrongUptoSaid : Prop := smapWrongUptoRow.holds Try.pinned (OpenSpec.upto smapWrongSpec)

/-- 'abridgerlaw24.SmapShift', WHERE WHAT IT READS IS OF BULK AT MOST 1048576: true; the input reads as it did. -/
def smapShiftUptoRow : OpenClaim := { program := "ytgbialeahdoelaa", sum := "6fe260ee576ed33c0817cc5cd509bd4bbbd03fd85fa6b8a8d5aa532e7415ec40", func := "abridger/abridgerlaw24.SmapShift", spec := "smapShift", inPlace := ["internal/abi.NoEscape", "internal/bytealg.MakeNoZero", "internal/bytealg.IndexByteString"], unfollowed := true, recurses := true, apart := false, narrowed := true }
def SmapShiftUptoSaid : Prop := smapShiftUptoRow.holds Try.pinned (OpenSpec.upto smapShiftSpec)

end Rows
end Go.Proofs.Ytgbialeahdoelaa
