/- The Go functions that the law FnExactNimHalf reaches, as Lean functions, and what their calls do. Written by a program of this session. -/
import Derived.Test.YtkbbipnocefmiaaProg
import Derived.Below
import Derived.Deep.Draws
import Derived.Deep.AppendLies
import Derived.Maps.AppendAt
import Derived.OwnWalk
import Derived.Laws.BytesArg
import Derived.Laws.MakeOwn
import Derived.Laws.OwnMore
import Derived.Deep.OwnRows
import Derived.Tactics
import Derived.Lib.ConvBytes
import Derived.Laws.Slices
import Derived.WalkKit
import Derived.KernelRfl
import Derived.RowKit3
import Derived.Deep.LoopGhost
import Derived.Deep.QuietTactic
import Derived.BigQuiet
import Derived.WideLaws
import Derived.Deep.DeepCutAuto
import Derived.Deep.CutBlock
import Derived.Deep.RegionHeld3
import Derived.Laws.Rows
import Derived.Lib.AppendStr
import Derived.ArgAppend
import Derived.Laws.IdiomCopy
import Derived.OrdersHeld
import Derived.Laws.BitsLemmas
import Derived.RowKit
import Derived.Test.YtkbbipnocefmiaaWWords
import Derived.Test.YtkbbipnocefmiaaWLast
import Derived.Test.YtkbbipnocefmiaaWTab
import Derived.Test.YtkbbipnocefmiaaWFour
import Derived.Test.YtkbbipnocefmiaaWQPut
import Derived.Test.YtkbbipnocefmiaaWApart
import Derived.Test.YtkbbipnocefmiaaWArr
import Derived.Test.YtkbbipnocefmiaaWZeros
import Derived.Test.YtkbbipnocefmiaaWFoot
import Derived.Test.YtkbbipnocefmiaaWKept
import Derived.Test.YtkbbipnocefmiaaWShare
import Derived.Test.YtkbbipnocefmiaaWN
import Derived.Test.YtkbbipnocefmiaaWFootNe
import Derived.Test.YtkbbipnocefmiaaWAt
import Derived.Test.YtkbbipnocefmiaaWEqStruct
import Derived.Test.YtkbbipnocefmiaaWRepsOne
import Derived.Test.YtkbbipnocefmiaaWInv
import Derived.Test.YtkbbipnocefmiaaWInvWords
import Derived.Test.YtkbbipnocefmiaaWGuard
import Derived.Test.YtkbbipnocefmiaaWNEv
import Derived.Test.YtkbbipnocefmiaaWMore
namespace Go.Proofs.Ytkbbipnocefmiaa.QFnExactNimHalf
open Go.RowKit Go.Proofs.YtkbbipnocefmiaaW.PrintWords Go.Proofs.YtkbbipnocefmiaaW.PrintLast Go.Proofs.YtkbbipnocefmiaaW.PrintMore
attribute [local go_sem] max2_int min2_int max_two min_two max_three min_three max_four min_four   -- for this text's walks alone
set_option linter.unusedVariables false
set_option linter.unusedSimpArgs false



def errW : Option Int → Value
  | none => .nilIface
  | some c => .iface 0 (.int .i64 c)
theorem errW_none : errW none = .nilIface := rfl
theorem errW_some (c : Int) : errW (some c) = .iface 0 (.int .i64 c) := rfl

theorem info3 : (Try.prog.info? 3).map (fun i => (i.zero, i.size, i.bytes)) = some (some (.int .i64 0), 1, 8) := by kernel_rfl
-- the values' own types

end Go.Proofs.Ytkbbipnocefmiaa.QFnExactNimHalf
