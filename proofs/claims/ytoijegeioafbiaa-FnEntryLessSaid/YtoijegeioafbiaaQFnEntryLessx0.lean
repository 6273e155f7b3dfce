/- What the law FnEntryLess reaches, function by function: what each computes, and that the machine's call comes to it. Laid by a program. -/
import Derived.Test.YtoijegeioafbiaaProg
import Derived.Below
import Derived.Deep.Draws
import Derived.Deep.AppendLies
import Derived.Maps.AppendAt
import Derived.OwnWalk
import Derived.Laws.BytesArg
import Derived.Laws.MakeOwn
import Derived.Laws.OwnMore
import Derived.Deep.OwnRows
import Derived.Tactics
import Derived.Lib.ConvBytes
import Derived.Laws.Slices
import Derived.WalkKit
import Derived.KernelRfl
import Derived.RowKit3
import Derived.Deep.LoopGhost
import Derived.Deep.QuietTactic
import Derived.BigQuiet
import Derived.WideLaws
import Derived.Deep.DeepCutAuto
import Derived.Deep.CutBlock
import Derived.Deep.RegionHeld3
import Derived.Laws.Rows
import Derived.Lib.AppendStr
import Derived.ArgAppend
import Derived.Laws.IdiomCopy
import Derived.OrdersHeld
import Derived.Laws.BitsLemmas
import Derived.RowKit
import Derived.RangeFuncNested
import Derived.RangeFuncBound
import Derived.RangeFuncCalls
import Derived.RangeFuncLeaves
import Derived.Shelf.Abstract
import Derived.OwnWalkIn
import Derived.TacticsInMore
import Derived.LoopNIn
import Derived.LoopIn
import Derived.Maps.Own
import Derived.Maps.OwnOps
import Derived.Maps.OwnIn
import Derived.Maps.AppendAt
import Derived.RangeFuncBox
import Derived.Test.YtoijegeioafbiaaWWords
import Derived.Test.YtoijegeioafbiaaWLast
import Derived.Test.YtoijegeioafbiaaWTab
import Derived.Test.YtoijegeioafbiaaWFour
import Derived.Test.YtoijegeioafbiaaWQPut
import Derived.Test.YtoijegeioafbiaaWApart
import Derived.Test.YtoijegeioafbiaaWArr
import Derived.Test.YtoijegeioafbiaaWZeros
import Derived.Test.YtoijegeioafbiaaWFoot
import Derived.Test.YtoijegeioafbiaaWKept
import Derived.Test.YtoijegeioafbiaaWShare
import Derived.Test.YtoijegeioafbiaaWN
import Derived.Test.YtoijegeioafbiaaWFootNe
import Derived.Test.YtoijegeioafbiaaWAt
import Derived.Test.YtoijegeioafbiaaWEqStruct
import Derived.Test.YtoijegeioafbiaaWRepsOne
import Derived.Test.YtoijegeioafbiaaWInv
import Derived.Test.YtoijegeioafbiaaWInvWords
import Derived.Test.YtoijegeioafbiaaWGuard
import Derived.Test.YtoijegeioafbiaaWNEv
import Derived.Test.YtoijegeioafbiaaWMore
namespace Go.Proofs.Ytoijegeioafbiaa.QFnEntryLess
open Go.RowKit Go.Proofs.YtoijegeioafbiaaW.PrintWords Go.Proofs.YtoijegeioafbiaaW.PrintLast Go.Proofs.YtoijegeioafbiaaW.PrintMore
attribute [local go_sem] max2_int min2_int max_two min_two max_three min_three max_four min_four   -- for this text's walks alone
set_option linter.unusedVariables false
set_option linter.unusedSimpArgs false



def errW : Option Int → Value
  | none => .nilIface
  | some c => .iface 0 (.int .i64 c)
theorem errW_none : errW none = .nilIface := rfl
theorem errW_some (c : Int) : errW (some c) = .iface 0 (.int .i64 c) := rfl

theorem info3 : (Try.prog.info? 3).map (fun i => (i.zero, i.size, i.bytes)) = some (some (.int .i64 0), 1, 8) := by kernel_rfl
theorem info5 : (Try.prog.info? 5).map (fun i => (i.zero, i.size, i.bytes)) = some (some (.int .u8 0), 1, 1) := by kernel_rfl
theorem info9 : (Try.prog.info? 9).map (fun i => (i.zero, i.size, i.bytes)) = some (some (.string ⟨#[]⟩), 1, 16) := by kernel_rfl
-- the values' own types

end Go.Proofs.Ytoijegeioafbiaa.QFnEntryLess
