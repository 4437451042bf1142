/-
  No cell of these rows narrows 'for every input' (looked for: loops, veiled, ifaces, maps, wideKeys, modest, calm, conditions, laid).
  DERIVED. THE GIVEN ROWS OF THIS SEAT. 4 by the template 'for every input the law returns true; each argument reads behind the call as it read before'; 0 by the template 'total and deterministic' (their statements: YtanepjclkciecaaTotals.lean).
  GIVEN WITH THE SEED: the statements are not yours to turn. If you find one false, say at which input.
  Laid BY PROGRAM, IN A SANDBOX (cutbox-rows.mjs): the forced cells as the released guide's own fill.sh prints them over the translation 744b12e40284afa8… (all of the seat's roots in one cut). By AI agents, Wed Nov 11 2026. No macro, syntax, notation, axiom, sorry.
-/
import Derived.Test.YtanepjclkciecaaChecked
import GoSem.Claim
import GoSem.ClaimJoined
import GoSem.ClaimMapViews
import Derived.JoinedTies
import Derived.KernelRfl
namespace Go.Proofs.Ytanepjclkciecaa
/- THE CELL 'sum', in the pinned program and in every row, IS THE sha256 OF THE DUMP (.gsa) THAT YtanepjclkciecaaProg.lean LOADS. Nothing in Lean hashes anything: it is a label: what it is worth is what the hold of that sum in a sandbox is worth. -/
noncomputable def Try.pinned : Pinned := { name := "ytanepjclkciecaa", sum := "744b12e40284afa8965778af9310a266d3bac1cb8506cdf9f126dac47ebb4997", checked := Try.checked }
namespace Rows
def none {H : Type} : Left H := { results := [], args := [] }

/-- 'abridgerlaw13.CinputTells': WHATEVER THE INPUT: true; the input reads as it did. -/
def cinputTellsSpec : ChangeSpec := { name := "cinputTells", fn := fun _ => fun
  | [d1, d2] => { results := [.lit (.bool true)], args := [d1, d2] }
  | _ => none }
def cinputTellsRow : OpenClaim := { program := "ytanepjclkciecaa", sum := "744b12e40284afa8965778af9310a266d3bac1cb8506cdf9f126dac47ebb4997", func := "abridger/abridgerlaw13.CinputTells", spec := "cinputTells", apart := false }
def CinputTellsSaid : Prop := cinputTellsRow.holds Try.pinned (OpenSpec.ofChange cinputTellsSpec)

/-- ITS FALSE NEIGHBOUR: 'it returns false'. Refute it at one input. -/
def cinputTellsWrong : ChangeSpec := { name := "cinputTells", fn := fun _ => fun
  | [d1, d2] => { results := [.lit (.bool false)], args := [d1, d2] }
  | _ => none }
def CinputTellsWrongFalsely : Prop := cinputTellsRow.holds Try.pinned (OpenSpec.ofChange cinputTellsWrong)

/-- 'abridgerlaw13.CinputTwice': WHATEVER THE INPUT: true; the input reads as it did. -/
def cinputTwiceSpec : ChangeSpec := { name := "cinputTwice", fn := fun _ => fun
  | [d] => { results := [.lit (.bool true)], args := [d] }
  | _ => none }
def cinputTwiceRow : OpenClaim := { program := "ytanepjclkciecaa", sum := "744b12e40284afa8965778af9310a266d3bac1cb8506cdf9f126dac47ebb4997", func := "abridger/abridgerlaw13.CinputTwice", spec := "cinputTwice", apart := false }
def CinputTwiceSaid : Prop := cinputTwiceRow.holds Try.pinned (OpenSpec.ofChange cinputTwiceSpec)

/-- ITS FALSE NEIGHBOUR: 'it returns false'. Refute it at one input. -/
def cinputTwiceWrong : ChangeSpec := { name := "cinputTwice", fn := fun _ => fun
  | [d] => { results := [.lit (.bool false)], args := [d] }
  | _ => none }
def CinputTwiceWrongFalsely : Prop := cinputTwiceRow.holds Try.pinned (OpenSpec.ofChange cinputTwiceWrong)

/-- 'abridgerlaw13.CinputEnds': WHATEVER THE INPUT: true; the input reads as it did. -/
def cinputEndsSpec : ChangeSpec := { name := "cinputEnds", fn := fun _ => fun
  | [d] => { results := [.lit (.bool true)], args := [d] }
  | _ => none }
def cinputEndsRow : OpenClaim := { program := "ytanepjclkciecaa", sum := "744b12e40284afa8965778af9310a266d3bac1cb8506cdf9f126dac47ebb4997", func := "abridger/abridgerlaw13.CinputEnds", spec := "cinputEnds", apart := false }
def CinputEndsSaid : Prop := cinputEndsRow.holds Try.pinned (OpenSpec.ofChange cinputEndsSpec)

/-- ITS FALSE NEIGHBOUR: 'it returns false'. Refute it at one input. -/
def cinputEndsWrong : ChangeSpec := { name := "cinputEnds", fn := fun _ => fun
  | [d] => { results := [.lit (.bool false)], args := [d] }
  | _ => none }
def CinputEndsWrongFalsely : Prop := cinputEndsRow.holds Try.pinned (OpenSpec.ofChange cinputEndsWrong)

/-- 'abridgerlaw13.CinputJoins': WHATEVER THE INPUT: true; the input reads as it did. -/
def cinputJoinsSpec : ChangeSpec := { name := "cinputJoins", fn := fun _ => fun
  | [d1, d2] => { results := [.lit (.bool true)], args := [d1, d2] }
  | _ => none }
def cinputJoinsRow : OpenClaim := { program := "ytanepjclkciecaa", sum := "744b12e40284afa8965778af9310a266d3bac1cb8506cdf9f126dac47ebb4997", func := "abridger/abridgerlaw13.CinputJoins", spec := "cinputJoins", apart := false }
def CinputJoinsSaid : Prop := cinputJoinsRow.holds Try.pinned (OpenSpec.ofChange cinputJoinsSpec)

/-- ITS FALSE NEIGHBOUR: 'it returns false'. Refute it at one input. -/
def cinputJoinsWrong : ChangeSpec := { name := "cinputJoins", fn := fun _ => fun
  | [d1, d2] => { results := [.lit (.bool false)], args := [d1, d2] }
  | _ => none }
def CinputJoinsWrongFalsely : Prop := cinputJoinsRow.holds Try.pinned (OpenSpec.ofChange cinputJoinsWrong)

/- THE SECOND FORM. 'bulk': how many values and letters a reading holds, each counted each time it is reached (what is shared counts as often as it is met; a slice's spare places count too). A statement '..UptoSaid' is the law's where the arguments, and the package variables that the reading takes, are together of bulk at most 1048576: NARROWER than '..Said'. Prove '..Said' where nothing that the law and all that it calls make is longer than what came in: it says more and counts as full. Else prove '..UptoSaid'. A law counts once. -/
mutual
def uptoBulk {H : Type} : DataW H → Nat
  | .lit (.string bytes) => bytes.length + 1
  | .lit _ => 1
  | .nil => 1
  | .ptr d => uptoBulk d + 1
  | .slice elems spare => uptoBulkAll elems + uptoBulkAll spare + 1
  | .agg parts => uptoBulkAll parts + 1
  | .iface _ d => uptoBulk d + 1
  | .map entries => uptoBulkEntries entries + 1
  | .held _ => 1
def uptoBulkAll {H : Type} : List (DataW H) → Nat
  | [] => 0
  | d :: r => uptoBulk d + uptoBulkAll r
def uptoBulkEntries {H : Type} : List (Lit × DataW H) → Nat
  | [] => 0
  | x :: r => uptoBulkEntry x + uptoBulkEntries r
def uptoBulkEntry {H : Type} : Lit × DataW H → Nat
  | (.string bytes, d) => bytes.length + uptoBulk d + 1
  | (_, d) => uptoBulk d + 1
 end
def uptoSmall : (H : Type) → List (DataW H) → Bool := fun _ ds => decide (uptoBulkAll ds ≤ 1048576)
def OpenSpec.upto (s : _root_.Go.ChangeSpec) : _root_.Go.OpenSpec := { _root_.Go.OpenSpec.ofChange s with cond := some uptoSmall }

/-- 'abridgerlaw13.CinputTells', WHERE WHAT IT READS IS OF BULK AT MOST 1048576: true; the input reads as it did. -/
def cinputTellsUptoRow : OpenClaim := { program := "ytanepjclkciecaa", sum := "744b12e40284afa8965778af9310a266d3bac1cb8506cdf9f126dac47ebb4997", func := "abridger/abridgerlaw13.CinputTells", spec := "cinputTells", apart := false, narrowed := true }
def CinputTellsUptoSaid : Prop := cinputTellsUptoRow.holds Try.pinned (OpenSpec.upto cinputTellsSpec)

/-- 'abridgerlaw13.CinputTwice', WHERE WHAT IT READS IS OF BULK AT MOST 1048576: true; the input reads as it did. -/
def cinputTwiceUptoRow : OpenClaim := { program := "ytanepjclkciecaa", sum := "744b12e40284afa8965778af9310a266d3bac1cb8506cdf9f126dac47ebb4997", func := "abridger/abridgerlaw13.CinputTwice", spec := "cinputTwice", apart := false, narrowed := true }
def CinputTwiceUptoSaid : Prop := cinputTwiceUptoRow.holds Try.pinned (OpenSpec.upto cinputTwiceSpec)

/-- 'abridgerlaw13.CinputEnds', WHERE WHAT IT READS IS OF BULK AT MOST 1048576: true; the input reads as it did. -/
def cinputEndsUptoRow : OpenClaim := { program := "ytanepjclkciecaa", sum := "744b12e40284afa8965778af9310a266d3bac1cb8506cdf9f126dac47ebb4997", func := "abridger/abridgerlaw13.CinputEnds", spec := "cinputEnds", apart := false, narrowed := true }
def CinputEndsUptoSaid : Prop := cinputEndsUptoRow.holds Try.pinned (OpenSpec.upto cinputEndsSpec)

/-- 'abridgerlaw13.CinputJoins', WHERE WHAT IT READS IS OF BULK AT MOST 1048576: true; the input reads as it did. -/
def cinputJoinsUptoRow : OpenClaim := { program := "ytanepjclkciecaa", sum := "744b12e40284afa8965778af9310a266d3bac1cb8506cdf9f126dac47ebb4997", func := "abridger/abridgerlaw13.CinputJoins", spec := "cinputJoins", apart := false, narrowed := true }
def CinputJoinsUptoSaid : Prop := cinputJoinsUptoRow.holds Try.pinned (OpenSpec.upto cinputJoinsSpec)

end Rows
end Go.Proofs.Ytanepjclkciecaa
