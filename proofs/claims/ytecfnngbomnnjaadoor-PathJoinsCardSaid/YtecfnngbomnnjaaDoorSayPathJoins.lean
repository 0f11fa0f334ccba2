-- Printed by wip/lawrow.py of this session. Not trusted: Lean checks it.
import Derived.Test.YtecfnngbomnnjaaDoorPAllx3
import Derived.Test.YtecfnngbomnnjaaDoorGOpen
import Derived.KernelRfl
namespace Go.Proofs.YtecfnngbomnnjaaDoor.Say
open Go.RowKit Go.Proofs.YtecfnngbomnnjaaDoor.PAll Go.Proofs.YtecfnngbomnnjaaDoor.Open Go.Proofs.YtecfnngbomnnjaaDoor.G Go.Proofs.YtecfnngbomnnjaaDoorW.PrintWords Go.Proofs.YtecfnngbomnnjaaDoorW.PrintLast Go.Proofs.YtecfnngbomnnjaaDoorW.PrintMore
set_option linter.unusedVariables false

theorem opensPathJoins_t9 : Opens Tryd.prog Kd.string 9 (fun x => x.size ≤ 140737488351232) := opens_string Tryd.underlying9 (by kernel_rfl)
theorem opensPathJoins_t22 : Opens Tryd.prog (Kd.slice 9 Kd.string) 22 (fun x => x.length * 16 ≤ 140737488351232 ∧ ∀ y0 ∈ x, y0.size ≤ 140737488351232) := opens_slice (B := 16) Tryd.underlying22 (by kernel_rfl) (by kernel_rfl) opensPathJoins_t9 (⟨#[]⟩ : ByteArray)

/-- THE ONE PURE STATEMENT of casketlaw11_PathJoins. -/
def SayPathJoins : Prop := ∀ (l0 : List ByteArray), (l0.length * 16 ≤ 140737488351232 ∧ ∀ y0 ∈ l0, y0.size ≤ 140737488351232) → ∃ k : Nat, casketlaw11_PathJoins.f k l0 = some true

theorem walkPathJoins (P : SayPathJoins) (l0 : List ByteArray) (w : World) (A0 : Option Addr) (c0 : Nat) (hr0 : Kd.C Kd.string w A0 l0.length l0) (hc0 : l0.length ≤ c0) (g0 : l0.length * 16 ≤ 140737488351232 ∧ ∀ y0 ∈ l0, y0.size ≤ 140737488351232) :
    Calls Tryd.prog 5 #[.slice A0 l0.length c0] w fun e w' => e = .returned (.bool true) ∧ Below w.heap.size w w' := by
  obtain ⟨k, h⟩ := P l0 g0
  refine (casketlaw11_PathJoins.calls k A0 c0 l0 true w hr0 hc0 h).mono ?_
  rintro e w' ⟨rfl, hd⟩
  exact ⟨rfl, hd⟩
end Go.Proofs.YtecfnngbomnnjaaDoor.Say
