-- Printed by wip/lawrow.py of this session. Not trusted: Lean checks it.
import Derived.Test.YtecfnngbomnnjaaDoorPAllx2
import Derived.Test.YtecfnngbomnnjaaDoorGOpen
import Derived.KernelRfl
namespace Go.Proofs.YtecfnngbomnnjaaDoor.Say
open Go.RowKit Go.Proofs.YtecfnngbomnnjaaDoor.PAll Go.Proofs.YtecfnngbomnnjaaDoor.Open Go.Proofs.YtecfnngbomnnjaaDoor.G Go.Proofs.YtecfnngbomnnjaaDoorW.PrintWords Go.Proofs.YtecfnngbomnnjaaDoorW.PrintLast Go.Proofs.YtecfnngbomnnjaaDoorW.PrintMore
set_option linter.unusedVariables false

theorem opensPathBack_t9 : Opens Tryd.prog Kd.string 9 (fun x => x.size ≤ 140737488351232) := opens_string Tryd.underlying9 (by kernel_rfl)
theorem opensPathBack_t22 : Opens Tryd.prog (Kd.slice 9 Kd.string) 22 (fun x => x.length * 16 ≤ 140737488351232 ∧ ∀ y0 ∈ x, y0.size ≤ 140737488351232) := opens_slice (B := 16) Tryd.underlying22 (by kernel_rfl) (by kernel_rfl) opensPathBack_t9 (⟨#[]⟩ : ByteArray)

/-- THE ONE PURE STATEMENT of casketlaw11_PathBack. -/
def SayPathBack : Prop := ∀ (a0 : ByteArray) (l1 : List ByteArray), (a0.size ≤ 140737488351232) → (l1.length * 16 ≤ 140737488351232 ∧ ∀ y0 ∈ l1, y0.size ≤ 140737488351232) → ∃ k : Nat, casketlaw11_PathBack.f k a0 l1 = some true

theorem walkPathBack (P : SayPathBack) (a0 : ByteArray) (l1 : List ByteArray) (w : World) (A1 : Option Addr) (c1 : Nat) (hr1 : Kd.C Kd.string w A1 l1.length l1) (hc1 : l1.length ≤ c1) (g0 : a0.size ≤ 140737488351232) (g1 : l1.length * 16 ≤ 140737488351232 ∧ ∀ y0 ∈ l1, y0.size ≤ 140737488351232) :
    Calls Tryd.prog 4 #[.string a0, .slice A1 l1.length c1] w fun e w' => e = .returned (.bool true) ∧ Below w.heap.size w w' := by
  obtain ⟨k, h⟩ := P a0 l1 g0 g1
  refine (casketlaw11_PathBack.calls k a0 A1 c1 l1 true w hr1 hc1 h).mono ?_
  rintro e w' ⟨rfl, hd⟩
  exact ⟨rfl, hd⟩
end Go.Proofs.YtecfnngbomnnjaaDoor.Say
