-- Printed by wip/gprint.py of this session (the kit's print with given functions). Not trusted: Lean checks it.
import Derived.Test.YtaiieopllffljaaProg
import Derived.Below
import Derived.Deep.Draws
import Derived.Deep.AppendLies
import Derived.Maps.AppendAt
import Derived.OwnWalk
import Derived.Laws.BytesArg
import Derived.Laws.MakeOwn
import Derived.Laws.OwnMore
import Derived.Deep.OwnRows
import Derived.Tactics
import Derived.Lib.ConvBytes
import Derived.Laws.Slices
import Derived.WalkKit
import Derived.KernelRfl
import Derived.RowKit3
import Derived.Deep.LoopGhost
import Derived.Deep.QuietTactic
import Derived.BigQuiet
import Derived.WideLaws
import Derived.Deep.DeepCutAuto
import Derived.Deep.CutBlock
import Derived.Deep.RegionHeld3
import Derived.Laws.Rows
import Derived.Lib.AppendStr
import Derived.ArgAppend
import Derived.Laws.IdiomCopy
import Derived.OrdersHeld
import Derived.Laws.BitsLemmas
import Derived.RowKit
import Derived.Test.YtaiieopllffljaaGFrame
import Derived.Test.YtaiieopllffljaaWWords
import Derived.Test.YtaiieopllffljaaWLast
import Derived.Test.YtaiieopllffljaaWTab
import Derived.Test.YtaiieopllffljaaWFour
import Derived.Test.YtaiieopllffljaaWQPut
import Derived.Test.YtaiieopllffljaaWApart
import Derived.Test.YtaiieopllffljaaWArr
import Derived.Test.YtaiieopllffljaaWZeros
import Derived.Test.YtaiieopllffljaaWFoot
import Derived.Test.YtaiieopllffljaaWKept
import Derived.Test.YtaiieopllffljaaWShare
import Derived.Test.YtaiieopllffljaaWN
import Derived.Test.YtaiieopllffljaaWFootNe
import Derived.Test.YtaiieopllffljaaWAt
import Derived.Test.YtaiieopllffljaaWEqStruct
import Derived.Test.YtaiieopllffljaaWRepsOne
import Derived.Test.YtaiieopllffljaaWInv
import Derived.Test.YtaiieopllffljaaWInvWords
import Derived.Test.YtaiieopllffljaaWGuard
import Derived.Test.YtaiieopllffljaaWNEv
import Derived.Test.YtaiieopllffljaaWMore
namespace Go.Proofs.Ytaiieopllffljaa.PAll
open Go.RowKit Go.Proofs.YtaiieopllffljaaW.PrintWords Go.Proofs.YtaiieopllffljaaW.PrintLast Go.Proofs.YtaiieopllffljaaW.PrintMore Go.Proofs.Ytaiieopllffljaa.G
attribute [local go_sem] max2_int min2_int max_two min_two max_three min_three max_four min_four   -- for this text's walks alone
set_option linter.unusedVariables false
set_option linter.unusedSimpArgs false



def errW : Option Int → Value
  | none => .nilIface
  | some c => .iface 0 (.int .i64 c)
theorem errW_none : errW none = .nilIface := rfl
theorem errW_some (c : Int) : errW (some c) = .iface 0 (.int .i64 c) := rfl

theorem info5 : (Try.prog.info? 5).map (fun i => (i.zero, i.size, i.bytes)) = some (some (.int .u8 0), 1, 1) := by kernel_rfl
-- the values' own types

end Go.Proofs.Ytaiieopllffljaa.PAll
