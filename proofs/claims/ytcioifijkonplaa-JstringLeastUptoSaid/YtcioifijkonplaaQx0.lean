-- Written by a program of this session (wip/tools/print2.sh), out of the translation, for this claim. Lean checks it.
import Derived.Test.YtcioifijkonplaaProg
import Derived.Below
import Derived.Deep.Draws
import Derived.Deep.AppendLies
import Derived.Maps.AppendAt
import Derived.OwnWalk
import Derived.Laws.BytesArg
import Derived.Laws.MakeOwn
import Derived.Laws.OwnMore
import Derived.Deep.OwnRows
import Derived.Tactics
import Derived.Lib.ConvBytes
import Derived.Laws.Slices
import Derived.WalkKit
import Derived.KernelRfl
import Derived.RowKit3
import Derived.Deep.LoopGhost
import Derived.Deep.QuietTactic
import Derived.BigQuiet
import Derived.WideLaws
import Derived.Deep.DeepCutAuto
import Derived.Deep.CutBlock
import Derived.Deep.RegionHeld3
import Derived.Laws.Rows
import Derived.Lib.AppendStr
import Derived.ArgAppend
import Derived.Laws.IdiomCopy
import Derived.OrdersHeld
import Derived.Laws.BitsLemmas
import Derived.RowKit
import Derived.Test.YtcioifijkonplaaWWords
import Derived.Test.YtcioifijkonplaaWLast
import Derived.Test.YtcioifijkonplaaWTab
import Derived.Test.YtcioifijkonplaaWFour
import Derived.Test.YtcioifijkonplaaWQPut
import Derived.Test.YtcioifijkonplaaWApart
import Derived.Test.YtcioifijkonplaaWArr
import Derived.Test.YtcioifijkonplaaWZeros
import Derived.Test.YtcioifijkonplaaWFoot
import Derived.Test.YtcioifijkonplaaWKept
import Derived.Test.YtcioifijkonplaaWShare
import Derived.Test.YtcioifijkonplaaWN
import Derived.Test.YtcioifijkonplaaWFootNe
import Derived.Test.YtcioifijkonplaaWAt
import Derived.Test.YtcioifijkonplaaWEqStruct
import Derived.Test.YtcioifijkonplaaWRepsOne
import Derived.Test.YtcioifijkonplaaWInv
import Derived.Test.YtcioifijkonplaaWInvWords
import Derived.Test.YtcioifijkonplaaWGuard
import Derived.Test.YtcioifijkonplaaWNEv
import Derived.Test.YtcioifijkonplaaWMore
import Derived.Test.YtcioifijkonplaaXWords
import Derived.Test.YtcioifijkonplaaXFn
import Derived.Test.YtcioifijkonplaaShelf
namespace Go.Proofs.Ytcioifijkonplaa.Q
open Go.RowKit Go.Proofs.YtcioifijkonplaaW.PrintWords Go.Proofs.YtcioifijkonplaaW.PrintLast Go.Proofs.YtcioifijkonplaaW.PrintMore
attribute [local go_sem] max2_int min2_int max_two min_two max_three min_three max_four min_four   -- for this text's walks alone
set_option linter.unusedVariables false
set_option linter.unusedSimpArgs false



def errW : Option Int → Value
  | none => .nilIface
  | some c => .iface 0 (.int .i64 c)
theorem errW_none : errW none = .nilIface := rfl
theorem errW_some (c : Int) : errW (some c) = .iface 0 (.int .i64 c) := rfl

theorem info3 : (Try.prog.info? 3).map (fun i => (i.zero, i.size, i.bytes)) = some (some (.int .i64 0), 1, 8) := by kernel_rfl
theorem info5 : (Try.prog.info? 5).map (fun i => (i.zero, i.size, i.bytes)) = some (some (.int .u8 0), 1, 1) := by kernel_rfl
theorem info9 : (Try.prog.info? 9).map (fun i => (i.zero, i.size, i.bytes)) = some (some (.string ⟨#[]⟩), 1, 16) := by kernel_rfl
-- the values' own types

end Go.Proofs.Ytcioifijkonplaa.Q
