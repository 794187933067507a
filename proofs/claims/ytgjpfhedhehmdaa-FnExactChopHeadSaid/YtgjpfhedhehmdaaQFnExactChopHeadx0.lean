/- The Go functions that the law FnExactChopHead reaches, as Lean functions, and what their calls do. Written by a program of this session. -/
import Derived.Test.YtgjpfhedhehmdaaProg
import Derived.Below
import Derived.Deep.Draws
import Derived.Deep.AppendLies
import Derived.Maps.AppendAt
import Derived.OwnWalk
import Derived.Laws.BytesArg
import Derived.Laws.MakeOwn
import Derived.Laws.OwnMore
import Derived.Deep.OwnRows
import Derived.Tactics
import Derived.Lib.ConvBytes
import Derived.Laws.Slices
import Derived.WalkKit
import Derived.KernelRfl
import Derived.RowKit3
import Derived.Deep.LoopGhost
import Derived.Deep.QuietTactic
import Derived.BigQuiet
import Derived.WideLaws
import Derived.Deep.DeepCutAuto
import Derived.Deep.CutBlock
import Derived.Deep.RegionHeld3
import Derived.Laws.Rows
import Derived.Lib.AppendStr
import Derived.ArgAppend
import Derived.Laws.IdiomCopy
import Derived.OrdersHeld
import Derived.Laws.BitsLemmas
import Derived.RowKit
import Derived.Deep.QuietTactic
import Derived.BigQuiet
import Derived.StillTailTactics
import Derived.Shelf.Abstract
import Derived.Test.YtgjpfhedhehmdaaWWords
import Derived.Test.YtgjpfhedhehmdaaWLast
import Derived.Test.YtgjpfhedhehmdaaWTab
import Derived.Test.YtgjpfhedhehmdaaWFour
import Derived.Test.YtgjpfhedhehmdaaWQPut
import Derived.Test.YtgjpfhedhehmdaaWApart
import Derived.Test.YtgjpfhedhehmdaaWArr
import Derived.Test.YtgjpfhedhehmdaaWZeros
import Derived.Test.YtgjpfhedhehmdaaWFoot
import Derived.Test.YtgjpfhedhehmdaaWKept
import Derived.Test.YtgjpfhedhehmdaaWShare
import Derived.Test.YtgjpfhedhehmdaaWN
import Derived.Test.YtgjpfhedhehmdaaWFootNe
import Derived.Test.YtgjpfhedhehmdaaWAt
import Derived.Test.YtgjpfhedhehmdaaWEqStruct
import Derived.Test.YtgjpfhedhehmdaaWRepsOne
import Derived.Test.YtgjpfhedhehmdaaWInv
import Derived.Test.YtgjpfhedhehmdaaWInvWords
import Derived.Test.YtgjpfhedhehmdaaWGuard
import Derived.Test.YtgjpfhedhehmdaaWNEv
import Derived.Test.YtgjpfhedhehmdaaWMore
namespace Go.Proofs.Ytgjpfhedhehmdaa.QFnExactChopHead
open Go.RowKit Go.Proofs.YtgjpfhedhehmdaaW.PrintWords Go.Proofs.YtgjpfhedhehmdaaW.PrintLast Go.Proofs.YtgjpfhedhehmdaaW.PrintMore
attribute [local go_sem] max2_int min2_int max_two min_two max_three min_three max_four min_four   -- for this text's walks alone
set_option linter.unusedVariables false
set_option linter.unusedSimpArgs false



def errW : Option Int → Value
  | none => .nilIface
  | some c => .iface 0 (.int .i64 c)
theorem errW_none : errW none = .nilIface := rfl
theorem errW_some (c : Int) : errW (some c) = .iface 0 (.int .i64 c) := rfl

theorem info3 : (Try.prog.info? 3).map (fun i => (i.zero, i.size, i.bytes)) = some (some (.int .i64 0), 1, 8) := by kernel_rfl
-- the values' own types

end Go.Proofs.Ytgjpfhedhehmdaa.QFnExactChopHead
