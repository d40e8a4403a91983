-- Written by wip/print2.py (the kit's printer, with functions given by hand).
import Derived.Test.YtgpnmhlpcjmehaaDoorProg
import Derived.Below
import Derived.Deep.Draws
import Derived.Deep.AppendLies
import Derived.Maps.AppendAt
import Derived.OwnWalk
import Derived.Laws.BytesArg
import Derived.Laws.MakeOwn
import Derived.Laws.OwnMore
import Derived.Deep.OwnRows
import Derived.Tactics
import Derived.Lib.ConvBytes
import Derived.Laws.Slices
import Derived.WalkKit
import Derived.KernelRfl
import Derived.RowKit3
import Derived.Deep.LoopGhost
import Derived.Deep.QuietTactic
import Derived.BigQuiet
import Derived.WideLaws
import Derived.Deep.DeepCutAuto
import Derived.Deep.CutBlock
import Derived.Deep.RegionHeld3
import Derived.Laws.Rows
import Derived.Lib.AppendStr
import Derived.ArgAppend
import Derived.Laws.IdiomCopy
import Derived.OrdersHeld
import Derived.Laws.BitsLemmas
import Derived.RowKit
import Derived.Test.YtgpnmhlpcjmehaaDoorShelf
import Derived.Test.YtgpnmhlpcjmehaaDoorGlob
import Derived.Test.YtgpnmhlpcjmehaaDoorOpens
import Derived.WalkSpells
import Derived.Lib.OthersKept
import Derived.Test.YtgpnmhlpcjmehaaDoorWWords
import Derived.Test.YtgpnmhlpcjmehaaDoorWLast
import Derived.Test.YtgpnmhlpcjmehaaDoorWTab
import Derived.Test.YtgpnmhlpcjmehaaDoorWFour
import Derived.Test.YtgpnmhlpcjmehaaDoorWQPut
import Derived.Test.YtgpnmhlpcjmehaaDoorWApart
import Derived.Test.YtgpnmhlpcjmehaaDoorWArr
import Derived.Test.YtgpnmhlpcjmehaaDoorWZeros
import Derived.Test.YtgpnmhlpcjmehaaDoorWFoot
import Derived.Test.YtgpnmhlpcjmehaaDoorWKept
import Derived.Test.YtgpnmhlpcjmehaaDoorWShare
import Derived.Test.YtgpnmhlpcjmehaaDoorWN
import Derived.Test.YtgpnmhlpcjmehaaDoorWFootNe
import Derived.Test.YtgpnmhlpcjmehaaDoorWAt
import Derived.Test.YtgpnmhlpcjmehaaDoorWEqStruct
import Derived.Test.YtgpnmhlpcjmehaaDoorWRepsOne
import Derived.Test.YtgpnmhlpcjmehaaDoorWInv
import Derived.Test.YtgpnmhlpcjmehaaDoorWInvWords
import Derived.Test.YtgpnmhlpcjmehaaDoorWGuard
import Derived.Test.YtgpnmhlpcjmehaaDoorWNEv
import Derived.Test.YtgpnmhlpcjmehaaDoorWMore
namespace Go.Proofs.YtgpnmhlpcjmehaaDoor.S
open Go.RowKit Go.Proofs.YtgpnmhlpcjmehaaDoorW.PrintWords Go.Proofs.YtgpnmhlpcjmehaaDoorW.PrintLast Go.Proofs.YtgpnmhlpcjmehaaDoorW.PrintMore
attribute [local go_sem] max2_int min2_int max_two min_two max_three min_three max_four min_four   -- for this text's walks alone
open Go.Shelf Go.Proofs.YtgpnmhlpcjmehaaDoorG
set_option linter.unusedVariables false
set_option linter.unusedSimpArgs false



def errW : Option Int → Value
  | none => .nilIface
  | some c => .iface 0 (.int .i64 c)
theorem errW_none : errW none = .nilIface := rfl
theorem errW_some (c : Int) : errW (some c) = .iface 0 (.int .i64 c) := rfl

-- the values' own types

end Go.Proofs.YtgpnmhlpcjmehaaDoor.S
