/-
  NARROWER THAN 'FOR EVERY INPUT', by the rows' own cells (each row's printed sentence says how): RenderTells: loops · RenderSame: loops · RenderCat: loops · RenderNest: loops.
  DERIVED. THE GIVEN ROWS OF THIS SEAT. 7 by the template 'for every input the law returns true; each argument reads behind the call as it read before'; 0 by the template 'total and deterministic' (their statements: YthcgkfgkknofnaaTotals.lean).
  GIVEN WITH THE SEED: the statements are not yours to turn. If you find one false, say at which input.
  Laid BY PROGRAM, IN A SANDBOX (cutbox-rows.mjs): the forced cells as the released guide's own fill.sh prints them over the translation b1224b7e51413741… (all of the seat's roots in one cut). By AI agents, Wed Nov 11 2026. No macro, syntax, notation, axiom, sorry.
-/
import Derived.Test.YthcgkfgkknofnaaChecked
import GoSem.Claim
import GoSem.ClaimJoined
import GoSem.ClaimMapViews
import Derived.JoinedTies
import Derived.KernelRfl
namespace Go.Proofs.Ythcgkfgkknofnaa
/- THE CELL 'sum', in the pinned program and in every row, IS THE sha256 OF THE DUMP (.gsa) THAT YthcgkfgkknofnaaProg.lean LOADS. Nothing in Lean hashes anything: it is a label: what it is worth is what the hold of that sum in a sandbox is worth. -/
noncomputable def Try.pinned : Pinned := { name := "ythcgkfgkknofnaa", sum := "b1224b7e514137416c3dc6690ed88bfad665d3812b36267b9f6f1e6ee5249aa6", checked := Try.checked }
namespace Rows
def none {H : Type} : Left H := { results := [], args := [] }

/-- 'abridgerlaw11.RenderTells': WHATEVER THE INPUT: true; the input reads as it did. -/
def renderTellsSpec : ChangeSpec := { name := "renderTells", fn := fun _ => fun
  | [d1, d2, d3] => { results := [.lit (.bool true)], args := [d1, d2, d3] }
  | _ => none }
def renderTellsRow : OpenClaim := { program := "ythcgkfgkknofnaa", sum := "b1224b7e514137416c3dc6690ed88bfad665d3812b36267b9f6f1e6ee5249aa6", func := "abridger/abridgerlaw11.RenderTells", spec := "renderTells", inPlace := ["internal/abi.NoEscape", "internal/bytealg.MakeNoZero"], unfollowed := true, recurses := true, loops := true, apart := false }
def RenderTellsSaid : Prop := renderTellsRow.holds Try.pinned (OpenSpec.ofChange renderTellsSpec)

/-- ITS FALSE NEIGHBOUR: 'it returns false'. Refute it at one input. -/
def renderTellsWrong : ChangeSpec := { name := "renderTells", fn := fun _ => fun
  | [d1, d2, d3] => { results := [.lit (.bool false)], args := [d1, d2, d3] }
  | _ => none }
def RenderTellsWrongFalsely : Prop := renderTellsRow.holds Try.pinned (OpenSpec.ofChange renderTellsWrong)

/-- 'abridgerlaw11.RenderFits': WHATEVER THE INPUT: true; the input reads as it did. -/
def renderFitsSpec : ChangeSpec := { name := "renderFits", fn := fun _ => fun
  | [d1, d2, d3, d4] => { results := [.lit (.bool true)], args := [d1, d2, d3, d4] }
  | _ => none }
def renderFitsRow : OpenClaim := { program := "ythcgkfgkknofnaa", sum := "b1224b7e514137416c3dc6690ed88bfad665d3812b36267b9f6f1e6ee5249aa6", func := "abridger/abridgerlaw11.RenderFits", spec := "renderFits", inPlace := ["internal/abi.NoEscape", "internal/bytealg.MakeNoZero"], unfollowed := true, recurses := true, apart := false }
def RenderFitsSaid : Prop := renderFitsRow.holds Try.pinned (OpenSpec.ofChange renderFitsSpec)

/-- ITS FALSE NEIGHBOUR: 'it returns false'. Refute it at one input. -/
def renderFitsWrong : ChangeSpec := { name := "renderFits", fn := fun _ => fun
  | [d1, d2, d3, d4] => { results := [.lit (.bool false)], args := [d1, d2, d3, d4] }
  | _ => none }
def RenderFitsWrongFalsely : Prop := renderFitsRow.holds Try.pinned (OpenSpec.ofChange renderFitsWrong)

/-- 'abridgerlaw11.RenderSame': WHATEVER THE INPUT: true; the input reads as it did. -/
def renderSameSpec : ChangeSpec := { name := "renderSame", fn := fun _ => fun
  | [d1, d2, d3, d4, d5] => { results := [.lit (.bool true)], args := [d1, d2, d3, d4, d5] }
  | _ => none }
def renderSameRow : OpenClaim := { program := "ythcgkfgkknofnaa", sum := "b1224b7e514137416c3dc6690ed88bfad665d3812b36267b9f6f1e6ee5249aa6", func := "abridger/abridgerlaw11.RenderSame", spec := "renderSame", inPlace := ["internal/abi.NoEscape", "internal/bytealg.MakeNoZero"], unfollowed := true, recurses := true, loops := true, apart := false }
def RenderSameSaid : Prop := renderSameRow.holds Try.pinned (OpenSpec.ofChange renderSameSpec)

/-- ITS FALSE NEIGHBOUR: 'it returns false'. Refute it at one input. -/
def renderSameWrong : ChangeSpec := { name := "renderSame", fn := fun _ => fun
  | [d1, d2, d3, d4, d5] => { results := [.lit (.bool false)], args := [d1, d2, d3, d4, d5] }
  | _ => none }
def RenderSameWrongFalsely : Prop := renderSameRow.holds Try.pinned (OpenSpec.ofChange renderSameWrong)

/-- 'abridgerlaw11.RenderHard': WHATEVER THE INPUT: true; the input reads as it did. -/
def renderHardSpec : ChangeSpec := { name := "renderHard", fn := fun _ => fun
  | [d1, d2] => { results := [.lit (.bool true)], args := [d1, d2] }
  | _ => none }
def renderHardRow : OpenClaim := { program := "ythcgkfgkknofnaa", sum := "b1224b7e514137416c3dc6690ed88bfad665d3812b36267b9f6f1e6ee5249aa6", func := "abridger/abridgerlaw11.RenderHard", spec := "renderHard", inPlace := ["internal/abi.NoEscape", "internal/bytealg.MakeNoZero"], unfollowed := true, recurses := true, apart := false }
def RenderHardSaid : Prop := renderHardRow.holds Try.pinned (OpenSpec.ofChange renderHardSpec)

/-- ITS FALSE NEIGHBOUR: 'it returns false'. Refute it at one input. -/
def renderHardWrong : ChangeSpec := { name := "renderHard", fn := fun _ => fun
  | [d1, d2] => { results := [.lit (.bool false)], args := [d1, d2] }
  | _ => none }
def RenderHardWrongFalsely : Prop := renderHardRow.holds Try.pinned (OpenSpec.ofChange renderHardWrong)

/-- 'abridgerlaw11.RenderLines': WHATEVER THE INPUT: true; the input reads as it did. -/
def renderLinesSpec : ChangeSpec := { name := "renderLines", fn := fun _ => fun
  | [d1, d2] => { results := [.lit (.bool true)], args := [d1, d2] }
  | _ => none }
def renderLinesRow : OpenClaim := { program := "ythcgkfgkknofnaa", sum := "b1224b7e514137416c3dc6690ed88bfad665d3812b36267b9f6f1e6ee5249aa6", func := "abridger/abridgerlaw11.RenderLines", spec := "renderLines", inPlace := ["internal/abi.NoEscape", "internal/bytealg.MakeNoZero"], unfollowed := true, recurses := true, apart := false }
def RenderLinesSaid : Prop := renderLinesRow.holds Try.pinned (OpenSpec.ofChange renderLinesSpec)

/-- ITS FALSE NEIGHBOUR: 'it returns false'. Refute it at one input. -/
def renderLinesWrong : ChangeSpec := { name := "renderLines", fn := fun _ => fun
  | [d1, d2] => { results := [.lit (.bool false)], args := [d1, d2] }
  | _ => none }
def RenderLinesWrongFalsely : Prop := renderLinesRow.holds Try.pinned (OpenSpec.ofChange renderLinesWrong)

/-- 'abridgerlaw11.RenderCat': WHATEVER THE INPUT: true; the input reads as it did. -/
def renderCatSpec : ChangeSpec := { name := "renderCat", fn := fun _ => fun
  | [d1, d2, d3, d4, d5] => { results := [.lit (.bool true)], args := [d1, d2, d3, d4, d5] }
  | _ => none }
def renderCatRow : OpenClaim := { program := "ythcgkfgkknofnaa", sum := "b1224b7e514137416c3dc6690ed88bfad665d3812b36267b9f6f1e6ee5249aa6", func := "abridger/abridgerlaw11.RenderCat", spec := "renderCat", inPlace := ["internal/abi.NoEscape", "internal/bytealg.MakeNoZero"], unfollowed := true, recurses := true, loops := true, apart := false }
def RenderCatSaid : Prop := renderCatRow.holds Try.pinned (OpenSpec.ofChange renderCatSpec)

/-- ITS FALSE NEIGHBOUR: 'it returns false'. Refute it at one input. -/
def renderCatWrong : ChangeSpec := { name := "renderCat", fn := fun _ => fun
  | [d1, d2, d3, d4, d5] => { results := [.lit (.bool false)], args := [d1, d2, d3, d4, d5] }
  | _ => none }
def RenderCatWrongFalsely : Prop := renderCatRow.holds Try.pinned (OpenSpec.ofChange renderCatWrong)

/-- 'abridgerlaw11.RenderNest': WHATEVER THE INPUT: true; the input reads as it did. -/
def renderNestSpec : ChangeSpec := { name := "renderNest", fn := fun _ => fun
  | [d1, d2] => { results := [.lit (.bool true)], args := [d1, d2] }
  | _ => none }
def renderNestRow : OpenClaim := { program := "ythcgkfgkknofnaa", sum := "b1224b7e514137416c3dc6690ed88bfad665d3812b36267b9f6f1e6ee5249aa6", func := "abridger/abridgerlaw11.RenderNest", spec := "renderNest", inPlace := ["internal/abi.NoEscape", "internal/bytealg.MakeNoZero"], unfollowed := true, recurses := true, loops := true, apart := false }
def RenderNestSaid : Prop := renderNestRow.holds Try.pinned (OpenSpec.ofChange renderNestSpec)

/-- ITS FALSE NEIGHBOUR: 'it returns false'. Refute it at one input. -/
def renderNestWrong : ChangeSpec := { name := "renderNest", fn := fun _ => fun
  | [d1, d2] => { results := [.lit (.bool false)], args := [d1, d2] }
  | _ => none }
def RenderNestWrongFalsely : Prop := renderNestRow.holds Try.pinned (OpenSpec.ofChange renderNestWrong)

/- THE SECOND FORM. 'bulk': how many values and letters a reading holds, each counted each time it is reached (what is shared counts as often as it is met; a slice's spare places count too). A statement '..UptoSaid' is the law's where the arguments, and the package variables that the reading takes, are together of bulk at most 1048576: NARROWER than '..Said'. Prove '..Said' where nothing that the law and all that it calls make is longer than what came in: it says more and counts as full. Else prove '..UptoSaid'. A law counts once. -/
mutual
def uptoBulk {H : Type} : DataW H → Nat
  | .lit (.string bytes) => bytes.length + 1
  | .lit _ => 1
  | .nil => 1
  | .ptr d => uptoBulk d + 1
  | .slice elems spare => uptoBulkAll elems + uptoBulkAll spare + 1
  | .agg parts => uptoBulkAll parts + 1
  | .iface _ d => uptoBulk d + 1
  | .map entries => uptoBulkEntries entries + 1
  | .held _ => 1
def uptoBulkAll {H : Type} : List (DataW H) → Nat
  | [] => 0
  | d :: r => uptoBulk d + uptoBulkAll r
def uptoBulkEntries {H : Type} : List (Lit × DataW H) → Nat
  | [] => 0
  | x :: r => uptoBulkEntry x + uptoBulkEntries r
def uptoBulkEntry {H : Type} : Lit × DataW H → Nat
  | (.string bytes, d) => bytes.length + uptoBulk d + 1
  | (_, d) => uptoBulk d + 1
 end
def uptoSmall : (H : Type) → List (DataW H) → Bool := fun _ ds => decide (uptoBulkAll ds ≤ 1048576)
def OpenSpec.upto (s : _root_.Go.ChangeSpec) : _root_.Go.OpenSpec := { _root_.Go.OpenSpec.ofChange s with cond := some uptoSmall }

/-- 'abridgerlaw11.RenderTells', WHERE WHAT IT READS IS OF BULK AT MOST 1048576: true; the input reads as it did. -/
def renderTellsUptoRow : OpenClaim := { program := "ythcgkfgkknofnaa", sum := "b1224b7e514137416c3dc6690ed88bfad665d3812b36267b9f6f1e6ee5249aa6", func := "abridger/abridgerlaw11.RenderTells", spec := "renderTells", inPlace := ["internal/abi.NoEscape", "internal/bytealg.MakeNoZero"], unfollowed := true, recurses := true, loops := true, apart := false, narrowed := true }
def RenderTellsUptoSaid : Prop := renderTellsUptoRow.holds Try.pinned (OpenSpec.upto renderTellsSpec)

/-- 'abridgerlaw11.RenderFits', WHERE WHAT IT READS IS OF BULK AT MOST 1048576: true; the input reads as it did. -/
def renderFitsUptoRow : OpenClaim := { program := "ythcgkfgkknofnaa", sum := "b1224b7e514137416c3dc6690ed88bfad665d3812b36267b9f6f1e6ee5249aa6", func := "abridger/abridgerlaw11.RenderFits", spec := "renderFits", inPlace := ["internal/abi.NoEscape", "internal/bytealg.MakeNoZero"], unfollowed := true, recurses := true, apart := false, narrowed := true }
def RenderFitsUptoSaid : Prop := renderFitsUptoRow.holds Try.pinned (OpenSpec.upto renderFitsSpec)

/-- 'abridgerlaw11.RenderSame', WHERE WHAT IT READS IS OF BULK AT MOST 1048576: true; the input reads as it did. -/
def renderSameUptoRow : OpenClaim := { program := "ythcgkfgkknofnaa", sum := "b1224b7e514137416c3dc6690ed88bfad665d3812b36267b9f6f1e6ee5249aa6", func := "abridger/abridgerlaw11.RenderSame", spec := "renderSame", inPlace := ["internal/abi.NoEscape", "internal/bytealg.MakeNoZero"], unfollowed := true, recurses := true, loops := true, apart := false, narrowed := true }
def RenderSameUptoSaid : Prop := renderSameUptoRow.holds Try.pinned (OpenSpec.upto renderSameSpec)

/-- 'abridgerlaw11.RenderHard', WHERE WHAT IT READS IS OF BULK AT MOST 1048576: true; the input reads as it did. -/
def renderHardUptoRow : OpenClaim := { program := "ythcgkfgkknofnaa", sum := "b1224b7e514137416c3dc6690ed88bfad665d3812b36267b9f6f1e6ee5249aa6", func := "abridger/abridgerlaw11.RenderHard", spec := "renderHard", inPlace := ["internal/abi.NoEscape", "internal/bytealg.MakeNoZero"], unfollowed := true, recurses := true, apart := false, narrowed := true }
def RenderHardUptoSaid : Prop := renderHardUptoRow.holds Try.pinned (OpenSpec.upto renderHardSpec)

/-- 'abridgerlaw11.RenderLines', WHERE WHAT IT READS IS OF BULK AT MOST 1048576: true; the input reads as it did. -/
def renderLinesUptoRow : OpenClaim := { program := "ythcgkfgkknofnaa", sum := "b1224b7e514137416c3dc6690ed88bfad665d3812b36267b9f6f1e6ee5249aa6", func := "abridger/abridgerlaw11.RenderLines", spec := "renderLines", inPlace := ["internal/abi.NoEscape", "internal/bytealg.MakeNoZero"], unfollowed := true, recurses := true, apart := false, narrowed := true }
def RenderLinesUptoSaid : Prop := renderLinesUptoRow.holds Try.pinned (OpenSpec.upto renderLinesSpec)

/-- 'abridgerlaw11.RenderCat', WHERE WHAT IT READS IS OF BULK AT MOST 1048576: true; the input reads as it did. -/
def renderCatUptoRow : OpenClaim := { program := "ythcgkfgkknofnaa", sum := "b1224b7e514137416c3dc6690ed88bfad665d3812b36267b9f6f1e6ee5249aa6", func := "abridger/abridgerlaw11.RenderCat", spec := "renderCat", inPlace := ["internal/abi.NoEscape", "internal/bytealg.MakeNoZero"], unfollowed := true, recurses := true, loops := true, apart := false, narrowed := true }
def RenderCatUptoSaid : Prop := renderCatUptoRow.holds Try.pinned (OpenSpec.upto renderCatSpec)

/-- 'abridgerlaw11.RenderNest', WHERE WHAT IT READS IS OF BULK AT MOST 1048576: true; the input reads as it did. -/
def renderNestUptoRow : OpenClaim := { program := "ythcgkfgkknofnaa", sum := "b1224b7e514137416c3dc6690ed88bfad665d3812b36267b9f6f1e6ee5249aa6", func := "abridger/abridgerlaw11.RenderNest", spec := "renderNest", inPlace := ["internal/abi.NoEscape", "internal/bytealg.MakeNoZero"], unfollowed := true, recurses := true, loops := true, apart := false, narrowed := true }
def RenderNestUptoSaid : Prop := renderNestUptoRow.holds Try.pinned (OpenSpec.upto renderNestSpec)

end Rows
end Go.Proofs.Ythcgkfgkknofnaa
