-- Printed by wip/lawrow.py of this session. Not trusted: Lean checks it.
import Derived.Test.YtecfnngbomnnjaaDoorPAllx2
import Derived.Test.YtecfnngbomnnjaaDoorGOpen
import Derived.KernelRfl
namespace Go.Proofs.YtecfnngbomnnjaaDoor.Say
open Go.RowKit Go.Proofs.YtecfnngbomnnjaaDoor.PAll Go.Proofs.YtecfnngbomnnjaaDoor.Open Go.Proofs.YtecfnngbomnnjaaDoor.G Go.Proofs.YtecfnngbomnnjaaDoorW.PrintWords Go.Proofs.YtecfnngbomnnjaaDoorW.PrintLast Go.Proofs.YtecfnngbomnnjaaDoorW.PrintMore
set_option linter.unusedVariables false

theorem opensPathParses_t9 : Opens Tryd.prog Kd.string 9 (fun x => x.size ≤ 140737488351232) := opens_string Tryd.underlying9 (by kernel_rfl)

/-- THE ONE PURE STATEMENT of casketlaw11_PathParses. -/
def SayPathParses : Prop := ∀ (a0 : ByteArray), (a0.size ≤ 140737488351232) → ∃ k : Nat, casketlaw11_PathParses.f k a0 = some true

theorem walkPathParses (P : SayPathParses) (a0 : ByteArray) (w : World)  (g0 : a0.size ≤ 140737488351232) :
    Calls Tryd.prog 3 #[.string a0] w fun e w' => e = .returned (.bool true) ∧ Below w.heap.size w w' := by
  obtain ⟨k, h⟩ := P a0 g0
  refine (casketlaw11_PathParses.calls k a0 true w h).mono ?_
  rintro e w' ⟨rfl, hd⟩
  exact ⟨rfl, hd⟩
end Go.Proofs.YtecfnngbomnnjaaDoor.Say
