-- Written by xprint.py, a program of this session, for this claim: contracts of the functions that the law reaches.
import Derived.Test.YthbkemkjkpaoaaaDoorProg
import Derived.Below
import Derived.Deep.Draws
import Derived.Deep.AppendLies
import Derived.Maps.AppendAt
import Derived.OwnWalk
import Derived.Laws.BytesArg
import Derived.Laws.MakeOwn
import Derived.Laws.OwnMore
import Derived.Deep.OwnRows
import Derived.Tactics
import Derived.Lib.ConvBytes
import Derived.Laws.Slices
import Derived.WalkKit
import Derived.KernelRfl
import Derived.RowKit3
import Derived.Deep.LoopGhost
import Derived.Deep.QuietTactic
import Derived.BigQuiet
import Derived.WideLaws
import Derived.Deep.DeepCutAuto
import Derived.Deep.CutBlock
import Derived.Deep.RegionHeld3
import Derived.Laws.Rows
import Derived.Lib.AppendStr
import Derived.ArgAppend
import Derived.Laws.IdiomCopy
import Derived.OrdersHeld
import Derived.Laws.BitsLemmas
import Derived.RowKit
import Derived.Lib.SliceRun
import Derived.Lib.TrailingZeros
import Derived.Laws.Bits64b
import Derived.Below
import Derived.Test.YthbkemkjkpaoaaaDoorWWords
import Derived.Test.YthbkemkjkpaoaaaDoorWLast
import Derived.Test.YthbkemkjkpaoaaaDoorWTab
import Derived.Test.YthbkemkjkpaoaaaDoorWFour
import Derived.Test.YthbkemkjkpaoaaaDoorWQPut
import Derived.Test.YthbkemkjkpaoaaaDoorWApart
import Derived.Test.YthbkemkjkpaoaaaDoorWArr
import Derived.Test.YthbkemkjkpaoaaaDoorWZeros
import Derived.Test.YthbkemkjkpaoaaaDoorWFoot
import Derived.Test.YthbkemkjkpaoaaaDoorWKept
import Derived.Test.YthbkemkjkpaoaaaDoorWShare
import Derived.Test.YthbkemkjkpaoaaaDoorWN
import Derived.Test.YthbkemkjkpaoaaaDoorWFootNe
import Derived.Test.YthbkemkjkpaoaaaDoorWAt
import Derived.Test.YthbkemkjkpaoaaaDoorWEqStruct
import Derived.Test.YthbkemkjkpaoaaaDoorWRepsOne
import Derived.Test.YthbkemkjkpaoaaaDoorWInv
import Derived.Test.YthbkemkjkpaoaaaDoorWInvWords
import Derived.Test.YthbkemkjkpaoaaaDoorWGuard
import Derived.Test.YthbkemkjkpaoaaaDoorWNEv
import Derived.Test.YthbkemkjkpaoaaaDoorWMore
import Derived.Test.YthbkemkjkpaoaaaDoorXBase
namespace Go.Proofs.YthbkemkjkpaoaaaDoor.X
open Go.RowKit Go.Proofs.YthbkemkjkpaoaaaDoorW.PrintWords Go.Proofs.YthbkemkjkpaoaaaDoorW.PrintLast Go.Proofs.YthbkemkjkpaoaaaDoorW.PrintMore
attribute [local go_sem] max2_int min2_int max_two min_two max_three min_three max_four min_four   -- for this text's walks alone
set_option linter.unusedVariables false
set_option linter.unusedSimpArgs false



def errW : Option Int → Value
  | none => .nilIface
  | some c => .iface 0 (.int .i64 c)
theorem errW_none : errW none = .nilIface := rfl
theorem errW_some (c : Int) : errW (some c) = .iface 0 (.int .i64 c) := rfl

theorem info3 : (Tryd.prog.info? 3).map (fun i => (i.zero, i.size, i.bytes)) = some (some (.int .i64 0), 1, 8) := by kernel_rfl
theorem info34 : (Tryd.prog.info? 34).map (fun i => (i.zero, i.size, i.bytes)) = some (some (.int .u64 0), 1, 8) := by kernel_rfl
-- the values' own types

end Go.Proofs.YthbkemkjkpaoaaaDoor.X
