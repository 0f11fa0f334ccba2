-- Printed by wip/gprint.py of this session (the kit's print with given functions). Not trusted: Lean checks it.
import Derived.Test.YtecfnngbomnnjaaProg
import Derived.Below
import Derived.Deep.Draws
import Derived.Deep.AppendLies
import Derived.Maps.AppendAt
import Derived.OwnWalk
import Derived.Laws.BytesArg
import Derived.Laws.MakeOwn
import Derived.Laws.OwnMore
import Derived.Deep.OwnRows
import Derived.Tactics
import Derived.Lib.ConvBytes
import Derived.Laws.Slices
import Derived.WalkKit
import Derived.KernelRfl
import Derived.RowKit3
import Derived.Deep.LoopGhost
import Derived.Deep.QuietTactic
import Derived.BigQuiet
import Derived.WideLaws
import Derived.Deep.DeepCutAuto
import Derived.Deep.CutBlock
import Derived.Deep.RegionHeld3
import Derived.Laws.Rows
import Derived.Lib.AppendStr
import Derived.ArgAppend
import Derived.Laws.IdiomCopy
import Derived.OrdersHeld
import Derived.Laws.BitsLemmas
import Derived.RowKit
import Derived.Test.YtecfnngbomnnjaaGPath
import Derived.Test.YtecfnngbomnnjaaWWords
import Derived.Test.YtecfnngbomnnjaaWLast
import Derived.Test.YtecfnngbomnnjaaWTab
import Derived.Test.YtecfnngbomnnjaaWFour
import Derived.Test.YtecfnngbomnnjaaWQPut
import Derived.Test.YtecfnngbomnnjaaWApart
import Derived.Test.YtecfnngbomnnjaaWArr
import Derived.Test.YtecfnngbomnnjaaWZeros
import Derived.Test.YtecfnngbomnnjaaWFoot
import Derived.Test.YtecfnngbomnnjaaWKept
import Derived.Test.YtecfnngbomnnjaaWShare
import Derived.Test.YtecfnngbomnnjaaWN
import Derived.Test.YtecfnngbomnnjaaWFootNe
import Derived.Test.YtecfnngbomnnjaaWAt
import Derived.Test.YtecfnngbomnnjaaWEqStruct
import Derived.Test.YtecfnngbomnnjaaWRepsOne
import Derived.Test.YtecfnngbomnnjaaWInv
import Derived.Test.YtecfnngbomnnjaaWInvWords
import Derived.Test.YtecfnngbomnnjaaWGuard
import Derived.Test.YtecfnngbomnnjaaWNEv
import Derived.Test.YtecfnngbomnnjaaWMore
namespace Go.Proofs.Ytecfnngbomnnjaa.PAll
open Go.RowKit Go.Proofs.YtecfnngbomnnjaaW.PrintWords Go.Proofs.YtecfnngbomnnjaaW.PrintLast Go.Proofs.YtecfnngbomnnjaaW.PrintMore Go.Proofs.Ytecfnngbomnnjaa.G
attribute [local go_sem] max2_int min2_int max_two min_two max_three min_three max_four min_four   -- for this text's walks alone
set_option linter.unusedVariables false
set_option linter.unusedSimpArgs false



def errW : Option Int → Value
  | none => .nilIface
  | some c => .iface 0 (.int .i64 c)
theorem errW_none : errW none = .nilIface := rfl
theorem errW_some (c : Int) : errW (some c) = .iface 0 (.int .i64 c) := rfl

theorem info9 : (Try.prog.info? 9).map (fun i => (i.zero, i.size, i.bytes)) = some (some (.string ⟨#[]⟩), 1, 16) := by kernel_rfl
-- the values' own types

end Go.Proofs.Ytecfnngbomnnjaa.PAll
