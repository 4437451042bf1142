/-
  No cell of these rows narrows 'for every input' (looked for: loops, veiled, ifaces, maps, wideKeys, modest, calm, conditions, laid).
  DERIVED. THE GIVEN ROWS OF THIS SEAT. 3 by the template 'for every input the law returns true; each argument reads behind the call as it read before'; 0 by the template 'total and deterministic' (their statements: YtngjpmeenoohmaaTotals.lean).
  GIVEN WITH THE SEED: the statements are not yours to turn. If you find one false, say at which input.
  Laid BY PROGRAM, IN A SANDBOX (cutbox-rows.mjs): the forced cells as the released guide's own fill.sh prints them over the translation 2924629892e95bb2… (all of the seat's roots in one cut). By AI agents, Wed Nov 11 2026. No macro, syntax, notation, axiom, sorry.
-/
import Derived.Test.YtngjpmeenoohmaaChecked
import GoSem.Claim
import GoSem.ClaimJoined
import GoSem.ClaimMapViews
import Derived.JoinedTies
import Derived.KernelRfl
namespace Go.Proofs.Ytngjpmeenoohmaa
/- THE CELL 'sum', in the pinned program and in every row, IS THE sha256 OF THE DUMP (.gsa) THAT YtngjpmeenoohmaaProg.lean LOADS. Nothing in Lean hashes anything: it is a label: what it is worth is what the hold of that sum in a sandbox is worth. -/
noncomputable def Try.pinned : Pinned := { name := "ytngjpmeenoohmaa", sum := "2924629892e95bb27848c1bcf71fcbb816717dea2aff86249581b93050bcbb0c", checked := Try.checked }
namespace Rows
def none {H : Type} : Left H := { results := [], args := [] }

/-- 'abridgerlaw23.PiecesTell': WHATEVER THE INPUT: true; the input reads as it did. -/
def piecesTellSpec : ChangeSpec := { name := "piecesTell", fn := fun _ => fun
  | [d1, d2] => { results := [.lit (.bool true)], args := [d1, d2] }
  | _ => none }
def piecesTellRow : OpenClaim := { program := "ytngjpmeenoohmaa", sum := "2924629892e95bb27848c1bcf71fcbb816717dea2aff86249581b93050bcbb0c", func := "abridger/abridgerlaw23.PiecesTell", spec := "piecesTell", inPlace := ["internal/abi.NoEscape"], apart := false }
def PiecesTellSaid : Prop := piecesTellRow.holds Try.pinned (OpenSpec.ofChange piecesTellSpec)

/-- ITS FALSE NEIGHBOUR: 'it returns false'. Refute it at one input. -/
def piecesTellWrong : ChangeSpec := { name := "piecesTell", fn := fun _ => fun
  | [d1, d2] => { results := [.lit (.bool false)], args := [d1, d2] }
  | _ => none }
def PiecesTellWrongFalsely : Prop := piecesTellRow.holds Try.pinned (OpenSpec.ofChange piecesTellWrong)

/-- 'abridgerlaw23.PiecesRise': WHATEVER THE INPUT: true; the input reads as it did. -/
def piecesRiseSpec : ChangeSpec := { name := "piecesRise", fn := fun _ => fun
  | [d1, d2, d3] => { results := [.lit (.bool true)], args := [d1, d2, d3] }
  | _ => none }
def piecesRiseRow : OpenClaim := { program := "ytngjpmeenoohmaa", sum := "2924629892e95bb27848c1bcf71fcbb816717dea2aff86249581b93050bcbb0c", func := "abridger/abridgerlaw23.PiecesRise", spec := "piecesRise", inPlace := ["internal/abi.NoEscape"], apart := false }
def PiecesRiseSaid : Prop := piecesRiseRow.holds Try.pinned (OpenSpec.ofChange piecesRiseSpec)

/-- ITS FALSE NEIGHBOUR: 'it returns false'. Refute it at one input. -/
def piecesRiseWrong : ChangeSpec := { name := "piecesRise", fn := fun _ => fun
  | [d1, d2, d3] => { results := [.lit (.bool false)], args := [d1, d2, d3] }
  | _ => none }
def PiecesRiseWrongFalsely : Prop := piecesRiseRow.holds Try.pinned (OpenSpec.ofChange piecesRiseWrong)

/-- 'abridgerlaw23.PiecesPart': WHATEVER THE INPUT: true; the input reads as it did. -/
def piecesPartSpec : ChangeSpec := { name := "piecesPart", fn := fun _ => fun
  | [d1, d2, d3] => { results := [.lit (.bool true)], args := [d1, d2, d3] }
  | _ => none }
def piecesPartRow : OpenClaim := { program := "ytngjpmeenoohmaa", sum := "2924629892e95bb27848c1bcf71fcbb816717dea2aff86249581b93050bcbb0c", func := "abridger/abridgerlaw23.PiecesPart", spec := "piecesPart", inPlace := ["internal/abi.NoEscape"], apart := false }
def PiecesPartSaid : Prop := piecesPartRow.holds Try.pinned (OpenSpec.ofChange piecesPartSpec)

/-- ITS FALSE NEIGHBOUR: 'it returns false'. Refute it at one input. -/
def piecesPartWrong : ChangeSpec := { name := "piecesPart", fn := fun _ => fun
  | [d1, d2, d3] => { results := [.lit (.bool false)], args := [d1, d2, d3] }
  | _ => none }
def PiecesPartWrongFalsely : Prop := piecesPartRow.holds Try.pinned (OpenSpec.ofChange piecesPartWrong)

/- THE SECOND FORM. 'bulk': how many values and letters a reading holds, each counted each time it is reached (what is shared counts as often as it is met; a slice's spare places count too). A statement '..UptoSaid' is the law's where the arguments, and the package variables that the reading takes, are together of bulk at most 1048576: NARROWER than '..Said'. Prove '..Said' where nothing that the law and all that it calls make is longer than what came in: it says more and counts as full. Else prove '..UptoSaid'. A law counts once. -/
mutual
def uptoBulk {H : Type} : DataW H → Nat
  | .lit (.string bytes) => bytes.length + 1
  | .lit _ => 1
  | .nil => 1
  | .ptr d => uptoBulk d + 1
  | .slice elems spare => uptoBulkAll elems + uptoBulkAll spare + 1
  | .agg parts => uptoBulkAll parts + 1
  | .iface _ d => uptoBulk d + 1
  | .map entries => uptoBulkEntries entries + 1
  | .held _ => 1
def uptoBulkAll {H : Type} : List (DataW H) → Nat
  | [] => 0
  | d :: r => uptoBulk d + uptoBulkAll r
def uptoBulkEntries {H : Type} : List (Lit × DataW H) → Nat
  | [] => 0
  | x :: r => uptoBulkEntry x + uptoBulkEntries r
def uptoBulkEntry {H : Type} : Lit × DataW H → Nat
  | (.string bytes, d) => bytes.length + uptoBulk d + 1
  | (_, d) => uptoBulk d + 1
 end
def uptoSmall : (H : Type) → List (DataW H) → Bool := fun _ ds => decide (uptoBulkAll ds ≤ 1048576)
def OpenSpec.upto (s : _root_.Go.ChangeSpec) : _root_.Go.OpenSpec := { _root_.Go.OpenSpec.ofChange s with cond := some uptoSmall }

/-- 'abridgerlaw23.PiecesTell', WHERE WHAT IT READS IS OF BULK AT MOST 1048576: true; the input reads as it did. -/
def piecesTellUptoRow : OpenClaim := { program := "ytngjpmeenoohmaa", sum := "2924629892e95bb27848c1bcf71fcbb816717dea2aff86249581b93050bcbb0c", func := "abridger/abridgerlaw23.PiecesTell", spec := "piecesTell", inPlace := ["internal/abi.NoEscape"], apart := false, narrowed := true }
def PiecesTellUptoSaid : Prop := piecesTellUptoRow.holds Try.pinned (OpenSpec.upto piecesTellSpec)

/-- 'abridgerlaw23.PiecesRise', WHERE WHAT IT READS IS OF BULK AT MOST 1048576: true; the input reads as it did. -/
def piecesRiseUptoRow : OpenClaim := { program := "ytngjpmeenoohmaa", sum := "2924629892e95bb27848c1bcf71fcbb816717dea2aff86249581b93050bcbb0c", func := "abridger/abridgerlaw23.PiecesRise", spec := "piecesRise", inPlace := ["internal/abi.NoEscape"], apart := false, narrowed := true }
def PiecesRiseUptoSaid : Prop := piecesRiseUptoRow.holds Try.pinned (OpenSpec.upto piecesRiseSpec)

/-- 'abridgerlaw23.PiecesPart', WHERE WHAT IT READS IS OF BULK AT MOST 1048576: true; the input reads as it did. -/
def piecesPartUptoRow : OpenClaim := { program := "ytngjpmeenoohmaa", sum := "2924629892e95bb27848c1bcf71fcbb816717dea2aff86249581b93050bcbb0c", func := "abridger/abridgerlaw23.PiecesPart", spec := "piecesPart", inPlace := ["internal/abi.NoEscape"], apart := false, narrowed := true }
def PiecesPartUptoSaid : Prop := piecesPartUptoRow.holds Try.pinned (OpenSpec.upto piecesPartSpec)

end Rows
end Go.Proofs.Ytngjpmeenoohmaa
