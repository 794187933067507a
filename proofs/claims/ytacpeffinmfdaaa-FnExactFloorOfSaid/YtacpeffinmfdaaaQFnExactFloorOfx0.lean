/- The Go functions that the law FnExactFloorOf reaches, as Lean functions, and what their calls do. Written by a program of this session. -/
import Derived.Test.YtacpeffinmfdaaaProg
import Derived.Below
import Derived.Deep.Draws
import Derived.Deep.AppendLies
import Derived.Maps.AppendAt
import Derived.OwnWalk
import Derived.Laws.BytesArg
import Derived.Laws.MakeOwn
import Derived.Laws.OwnMore
import Derived.Deep.OwnRows
import Derived.Tactics
import Derived.Lib.ConvBytes
import Derived.Laws.Slices
import Derived.WalkKit
import Derived.KernelRfl
import Derived.RowKit3
import Derived.Deep.LoopGhost
import Derived.Deep.QuietTactic
import Derived.BigQuiet
import Derived.WideLaws
import Derived.Deep.DeepCutAuto
import Derived.Deep.CutBlock
import Derived.Deep.RegionHeld3
import Derived.Laws.Rows
import Derived.Lib.AppendStr
import Derived.ArgAppend
import Derived.Laws.IdiomCopy
import Derived.OrdersHeld
import Derived.Laws.BitsLemmas
import Derived.RowKit
import Derived.Test.YtacpeffinmfdaaaWWords
import Derived.Test.YtacpeffinmfdaaaWLast
import Derived.Test.YtacpeffinmfdaaaWTab
import Derived.Test.YtacpeffinmfdaaaWFour
import Derived.Test.YtacpeffinmfdaaaWQPut
import Derived.Test.YtacpeffinmfdaaaWApart
import Derived.Test.YtacpeffinmfdaaaWArr
import Derived.Test.YtacpeffinmfdaaaWZeros
import Derived.Test.YtacpeffinmfdaaaWFoot
import Derived.Test.YtacpeffinmfdaaaWKept
import Derived.Test.YtacpeffinmfdaaaWShare
import Derived.Test.YtacpeffinmfdaaaWN
import Derived.Test.YtacpeffinmfdaaaWFootNe
import Derived.Test.YtacpeffinmfdaaaWAt
import Derived.Test.YtacpeffinmfdaaaWEqStruct
import Derived.Test.YtacpeffinmfdaaaWRepsOne
import Derived.Test.YtacpeffinmfdaaaWInv
import Derived.Test.YtacpeffinmfdaaaWInvWords
import Derived.Test.YtacpeffinmfdaaaWGuard
import Derived.Test.YtacpeffinmfdaaaWNEv
import Derived.Test.YtacpeffinmfdaaaWMore
namespace Go.Proofs.Ytacpeffinmfdaaa.QFnExactFloorOf
open Go.RowKit Go.Proofs.YtacpeffinmfdaaaW.PrintWords Go.Proofs.YtacpeffinmfdaaaW.PrintLast Go.Proofs.YtacpeffinmfdaaaW.PrintMore
attribute [local go_sem] max2_int min2_int max_two min_two max_three min_three max_four min_four   -- for this text's walks alone
set_option linter.unusedVariables false
set_option linter.unusedSimpArgs false



def errW : Option Int → Value
  | none => .nilIface
  | some c => .iface 0 (.int .i64 c)
theorem errW_none : errW none = .nilIface := rfl
theorem errW_some (c : Int) : errW (some c) = .iface 0 (.int .i64 c) := rfl

-- the values' own types

end Go.Proofs.Ytacpeffinmfdaaa.QFnExactFloorOf
