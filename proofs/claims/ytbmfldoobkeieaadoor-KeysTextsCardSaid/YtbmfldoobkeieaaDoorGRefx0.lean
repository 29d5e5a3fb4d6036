-- Written by wip/tools/gprint.py (a program of this session's around the kit's print), not by print.sh.
import Derived.Test.YtbmfldoobkeieaaDoorProg
import Derived.Below
import Derived.Deep.Draws
import Derived.Deep.AppendLies
import Derived.Maps.AppendAt
import Derived.OwnWalk
import Derived.Laws.BytesArg
import Derived.Laws.MakeOwn
import Derived.Laws.OwnMore
import Derived.Deep.OwnRows
import Derived.Tactics
import Derived.Lib.ConvBytes
import Derived.Laws.Slices
import Derived.WalkKit
import Derived.KernelRfl
import Derived.RowKit3
import Derived.Deep.LoopGhost
import Derived.Deep.QuietTactic
import Derived.BigQuiet
import Derived.WideLaws
import Derived.Deep.DeepCutAuto
import Derived.Deep.CutBlock
import Derived.Deep.RegionHeld3
import Derived.Laws.Rows
import Derived.Lib.AppendStr
import Derived.ArgAppend
import Derived.Laws.IdiomCopy
import Derived.OrdersHeld
import Derived.Laws.BitsLemmas
import Derived.RowKit
import Derived.Test.YtbmfldoobkeieaaDoorWWords
import Derived.Test.YtbmfldoobkeieaaDoorWLast
import Derived.Test.YtbmfldoobkeieaaDoorWTab
import Derived.Test.YtbmfldoobkeieaaDoorWFour
import Derived.Test.YtbmfldoobkeieaaDoorWQPut
import Derived.Test.YtbmfldoobkeieaaDoorWApart
import Derived.Test.YtbmfldoobkeieaaDoorWArr
import Derived.Test.YtbmfldoobkeieaaDoorWZeros
import Derived.Test.YtbmfldoobkeieaaDoorWFoot
import Derived.Test.YtbmfldoobkeieaaDoorWKept
import Derived.Test.YtbmfldoobkeieaaDoorWShare
import Derived.Test.YtbmfldoobkeieaaDoorWN
import Derived.Test.YtbmfldoobkeieaaDoorWFootNe
import Derived.Test.YtbmfldoobkeieaaDoorWAt
import Derived.Test.YtbmfldoobkeieaaDoorWEqStruct
import Derived.Test.YtbmfldoobkeieaaDoorWRepsOne
import Derived.Test.YtbmfldoobkeieaaDoorWInv
import Derived.Test.YtbmfldoobkeieaaDoorWInvWords
import Derived.Test.YtbmfldoobkeieaaDoorWGuard
import Derived.Test.YtbmfldoobkeieaaDoorWNEv
import Derived.Test.YtbmfldoobkeieaaDoorWMore
namespace Go.Proofs.YtbmfldoobkeieaaDoor.GRef
open Go.RowKit Go.Proofs.YtbmfldoobkeieaaDoorW.PrintWords Go.Proofs.YtbmfldoobkeieaaDoorW.PrintLast Go.Proofs.YtbmfldoobkeieaaDoorW.PrintMore
attribute [local go_sem] max2_int min2_int max_two min_two max_three min_three max_four min_four   -- for this text's walks alone
set_option linter.unusedVariables false
set_option linter.unusedSimpArgs false



def errW : Option Int → Value
  | none => .nilIface
  | some c => .iface 0 (.int .i64 c)
theorem errW_none : errW none = .nilIface := rfl
theorem errW_some (c : Int) : errW (some c) = .iface 0 (.int .i64 c) := rfl

-- the values' own types

end Go.Proofs.YtbmfldoobkeieaaDoor.GRef
