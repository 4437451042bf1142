/-
  No cell of these rows narrows 'for every input' (looked for: loops, veiled, ifaces, maps, wideKeys, modest, calm, conditions, laid).
  DERIVED. THE GIVEN ROWS OF THIS SEAT. 5 by the template 'for every input the law returns true; each argument reads behind the call as it read before'; 0 by the template 'total and deterministic' (their statements: YtlhhibhcoefolaaTotals.lean).
  GIVEN WITH THE SEED: the statements are not yours to turn. If you find one false, say at which input.
  Laid BY PROGRAM, IN A SANDBOX (cutbox-rows.mjs): the forced cells as the released guide's own fill.sh prints them over the translation 9bb230c4eafa6c65… (all of the seat's roots in one cut). By AI agents, Wed Nov 11 2026. No macro, syntax, notation, axiom, sorry.
-/
import Derived.Test.YtlhhibhcoefolaaChecked
import GoSem.Claim
import GoSem.ClaimJoined
import GoSem.ClaimMapViews
import Derived.JoinedTies
import Derived.KernelRfl
namespace Go.Proofs.Ytlhhibhcoefolaa
/- THE CELL 'sum', in the pinned program and in every row, IS THE sha256 OF THE DUMP (.gsa) THAT YtlhhibhcoefolaaProg.lean LOADS. Nothing in Lean hashes anything: it is a label: what it is worth is what the hold of that sum in a sandbox is worth. -/
noncomputable def Try.pinned : Pinned := { name := "ytlhhibhcoefolaa", sum := "9bb230c4eafa6c653f5a270b4dabb8fe20559d5efb1ac2819448991760ee3f10", checked := Try.checked }
namespace Rows
def none {H : Type} : Left H := { results := [], args := [] }

/-- 'abridgerlaw6.JlexTells': WHATEVER THE INPUT: true; the input reads as it did. -/
def jlexTellsSpec : ChangeSpec := { name := "jlexTells", fn := fun _ => fun
  | [d] => { results := [.lit (.bool true)], args := [d] }
  | _ => none }
def jlexTellsRow : OpenClaim := { program := "ytlhhibhcoefolaa", sum := "9bb230c4eafa6c653f5a270b4dabb8fe20559d5efb1ac2819448991760ee3f10", func := "abridger/abridgerlaw6.JlexTells", spec := "jlexTells", inPlace := ["internal/bytealg.IndexByteString"], unfollowed := true, recurses := true, apart := false }
def JlexTellsSaid : Prop := jlexTellsRow.holds Try.pinned (OpenSpec.ofChange jlexTellsSpec)

/-- ITS FALSE NEIGHBOUR: 'it returns false'. Refute it at one input. -/
def jlexTellsWrong : ChangeSpec := { name := "jlexTells", fn := fun _ => fun
  | [d] => { results := [.lit (.bool false)], args := [d] }
  | _ => none }
def JlexTellsWrongFalsely : Prop := jlexTellsRow.holds Try.pinned (OpenSpec.ofChange jlexTellsWrong)

/-- 'abridgerlaw6.JlexCovers': WHATEVER THE INPUT: true; the input reads as it did. -/
def jlexCoversSpec : ChangeSpec := { name := "jlexCovers", fn := fun _ => fun
  | [d] => { results := [.lit (.bool true)], args := [d] }
  | _ => none }
def jlexCoversRow : OpenClaim := { program := "ytlhhibhcoefolaa", sum := "9bb230c4eafa6c653f5a270b4dabb8fe20559d5efb1ac2819448991760ee3f10", func := "abridger/abridgerlaw6.JlexCovers", spec := "jlexCovers", inPlace := ["internal/bytealg.IndexByteString"], unfollowed := true, recurses := true, apart := false }
def JlexCoversSaid : Prop := jlexCoversRow.holds Try.pinned (OpenSpec.ofChange jlexCoversSpec)

/-- ITS FALSE NEIGHBOUR: 'it returns false'. Refute it at one input. -/
def jlexCoversWrong : ChangeSpec := { name := "jlexCovers", fn := fun _ => fun
  | [d] => { results := [.lit (.bool false)], args := [d] }
  | _ => none }
def JlexCoversWrongFalsely : Prop := jlexCoversRow.holds Try.pinned (OpenSpec.ofChange jlexCoversWrong)

/-- 'abridgerlaw6.JlexBlanks': WHATEVER THE INPUT: true; the input reads as it did. -/
def jlexBlanksSpec : ChangeSpec := { name := "jlexBlanks", fn := fun _ => fun
  | [d1, d2] => { results := [.lit (.bool true)], args := [d1, d2] }
  | _ => none }
def jlexBlanksRow : OpenClaim := { program := "ytlhhibhcoefolaa", sum := "9bb230c4eafa6c653f5a270b4dabb8fe20559d5efb1ac2819448991760ee3f10", func := "abridger/abridgerlaw6.JlexBlanks", spec := "jlexBlanks", inPlace := ["internal/bytealg.IndexByteString"], unfollowed := true, recurses := true, apart := false }
def JlexBlanksSaid : Prop := jlexBlanksRow.holds Try.pinned (OpenSpec.ofChange jlexBlanksSpec)

/-- ITS FALSE NEIGHBOUR: 'it returns false'. Refute it at one input. -/
def jlexBlanksWrong : ChangeSpec := { name := "jlexBlanks", fn := fun _ => fun
  | [d1, d2] => { results := [.lit (.bool false)], args := [d1, d2] }
  | _ => none }
def JlexBlanksWrongFalsely : Prop := jlexBlanksRow.holds Try.pinned (OpenSpec.ofChange jlexBlanksWrong)

/-- 'abridgerlaw6.JlexWrong': WHATEVER THE INPUT: true; the input reads as it did. -/
def jlexWrongSpec : ChangeSpec := { name := "jlexWrong", fn := fun _ => fun
  | [d] => { results := [.lit (.bool true)], args := [d] }
  | _ => none }
def jlexWrongRow : OpenClaim := { program := "ytlhhibhcoefolaa", sum := "9bb230c4eafa6c653f5a270b4dabb8fe20559d5efb1ac2819448991760ee3f10", func := "abridger/abridgerlaw6.JlexWrong", spec := "jlexWrong", inPlace := ["internal/bytealg.IndexByteString"], unfollowed := true, recurses := true, apart := false }
def JlexWrongSaid : Prop := jlexWrongRow.holds Try.pinned (OpenSpec.ofChange jlexWrongSpec)

/-- ITS FALSE NEIGHBOUR: 'it returns false'. Refute it at one input. -/
def jlexWrongWrong : ChangeSpec := { name := "jlexWrong", fn := fun _ => fun
  | [d] => { results := [.lit (.bool false)], args := [d] }
  | _ => none }
def JlexWrongWrongFalsely : Prop := jlexWrongRow.holds Try.pinned (OpenSpec.ofChange jlexWrongWrong)

/-- 'abridgerlaw6.JlexJoins': WHATEVER THE INPUT: true; the input reads as it did. -/
def jlexJoinsSpec : ChangeSpec := { name := "jlexJoins", fn := fun _ => fun
  | [d1, d2] => { results := [.lit (.bool true)], args := [d1, d2] }
  | _ => none }
def jlexJoinsRow : OpenClaim := { program := "ytlhhibhcoefolaa", sum := "9bb230c4eafa6c653f5a270b4dabb8fe20559d5efb1ac2819448991760ee3f10", func := "abridger/abridgerlaw6.JlexJoins", spec := "jlexJoins", inPlace := ["internal/bytealg.IndexByteString"], unfollowed := true, recurses := true, apart := false }
def JlexJoinsSaid : Prop := jlexJoinsRow.holds Try.pinned (OpenSpec.ofChange jlexJoinsSpec)

/-- ITS FALSE NEIGHBOUR: 'it returns false'. Refute it at one input. -/
def jlexJoinsWrong : ChangeSpec := { name := "jlexJoins", fn := fun _ => fun
  | [d1, d2] => { results := [.lit (.bool false)], args := [d1, d2] }
  | _ => none }
def JlexJoinsWrongFalsely : Prop := jlexJoinsRow.holds Try.pinned (OpenSpec.ofChange jlexJoinsWrong)

/- THE SECOND FORM. 'bulk': how many values and letters a reading holds, each counted each time it is reached (what is shared counts as often as it is met; a slice's spare places count too). A statement '..UptoSaid' is the law's where the arguments, and the package variables that the reading takes, are together of bulk at most 1048576: NARROWER than '..Said'. Prove '..Said' where nothing that the law and all that it calls make is longer than what came in: it says more and counts as full. Else prove '..UptoSaid'. A law counts once. -/
mutual
def uptoBulk {H : Type} : DataW H → Nat
  | .lit (.string bytes) => bytes.length + 1
  | .lit _ => 1
  | .nil => 1
  | .ptr d => uptoBulk d + 1
  | .slice elems spare => uptoBulkAll elems + uptoBulkAll spare + 1
  | .agg parts => uptoBulkAll parts + 1
  | .iface _ d => uptoBulk d + 1
  | .map entries => uptoBulkEntries entries + 1
  | .held _ => 1
def uptoBulkAll {H : Type} : List (DataW H) → Nat
  | [] => 0
  | d :: r => uptoBulk d + uptoBulkAll r
def uptoBulkEntries {H : Type} : List (Lit × DataW H) → Nat
  | [] => 0
  | x :: r => uptoBulkEntry x + uptoBulkEntries r
def uptoBulkEntry {H : Type} : Lit × DataW H → Nat
  | (.string bytes, d) => bytes.length + uptoBulk d + 1
  | (_, d) => uptoBulk d + 1
 end
def uptoSmall : (H : Type) → List (DataW H) → Bool := fun _ ds => decide (uptoBulkAll ds ≤ 1048576)
def OpenSpec.upto (s : _root_.Go.ChangeSpec) : _root_.Go.OpenSpec := { _root_.Go.OpenSpec.ofChange s with cond := some uptoSmall }

/-- 'abridgerlaw6.JlexTells', WHERE WHAT IT READS IS OF BULK AT MOST 1048576: true; the input reads as it did. -/
def jlexTellsUptoRow : OpenClaim := { program := "ytlhhibhcoefolaa", sum := "9bb230c4eafa6c653f5a270b4dabb8fe20559d5efb1ac2819448991760ee3f10", func := "abridger/abridgerlaw6.JlexTells", spec := "jlexTells", inPlace := ["internal/bytealg.IndexByteString"], unfollowed := true, recurses := true, apart := false, narrowed := true }
def JlexTellsUptoSaid : Prop := jlexTellsUptoRow.holds Try.pinned (OpenSpec.upto jlexTellsSpec)

/-- 'abridgerlaw6.JlexCovers', WHERE WHAT IT READS IS OF BULK AT MOST 1048576: true; the input reads as it did. -/
def jlexCoversUptoRow : OpenClaim := { program := "ytlhhibhcoefolaa", sum := "9bb230c4eafa6c653f5a270b4dabb8fe20559d5efb1ac2819448991760ee3f10", func := "abridger/abridgerlaw6.JlexCovers", spec := "jlexCovers", inPlace := ["internal/bytealg.IndexByteString"], unfollowed := true, recurses := true, apart := false, narrowed := true }
def JlexCoversUptoSaid : Prop := jlexCoversUptoRow.holds Try.pinned (OpenSpec.upto jlexCoversSpec)

/-- 'abridgerlaw6.JlexBlanks', WHERE WHAT IT READS IS OF BULK AT MOST 1048576: true; the input reads as it did. -/
def jlexBlanksUptoRow : OpenClaim := { program := "ytlhhibhcoefolaa", sum := "9bb230c4eafa6c653f5a270b4dabb8fe20559d5efb1ac2819448991760ee3f10", func := "abridger/abridgerlaw6.JlexBlanks", spec := "jlexBlanks", inPlace := ["internal/bytealg.IndexByteString"], unfollowed := true, recurses := true, apart := false, narrowed := true }
def JlexBlanksUptoSaid : Prop := jlexBlanksUptoRow.holds Try.pinned (OpenSpec.upto jlexBlanksSpec)

/-- 'abridgerlaw6.JlexWrong', WHERE WHAT IT READS IS OF BULK AT MOST 1048576: true; the input reads as it did. -/
def jlexWrongUptoRow : OpenClaim := { program := "ytlhhibhcoefolaa", sum := "9bb230c4eafa6c653f5a270b4dabb8fe20559d5efb1ac2819448991760ee3f10", func := "abridger/abridgerlaw6.JlexWrong", spec := "jlexWrong", inPlace := ["internal/bytealg.IndexByteString"], unfollowed := true, recurses := true, apart := false, narrowed := true }
def JlexWrongUptoSaid : Prop := jlexWrongUptoRow.holds Try.pinned (OpenSpec.upto jlexWrongSpec)

/-- 'abridgerlaw6.JlexJoins', WHERE WHAT IT READS IS OF BULK AT MOST 1048576: true; the input reads as it did. -/
def jlexJoinsUptoRow : OpenClaim := { program := "ytlhhibhcoefolaa", sum := "9bb230c4eafa6c653f5a270b4dabb8fe20559d5efb1ac2819448991760ee3f10", func := "abridger/abridgerlaw6.JlexJoins", spec := "jlexJoins", inPlace := ["internal/bytealg.IndexByteString"], unfollowed := true, recurses := true, apart := false, narrowed := true }
def JlexJoinsUptoSaid : Prop := jlexJoinsUptoRow.holds Try.pinned (OpenSpec.upto jlexJoinsSpec)

end Rows
end Go.Proofs.Ytlhhibhcoefolaa
