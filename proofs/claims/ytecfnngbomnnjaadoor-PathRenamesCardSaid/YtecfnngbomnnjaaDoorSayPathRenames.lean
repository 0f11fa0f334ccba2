-- Printed by wip/lawrow.py of this session. Not trusted: Lean checks it.
import Derived.Test.YtecfnngbomnnjaaDoorPRenx2
import Derived.Test.YtecfnngbomnnjaaDoorGOpen
import Derived.KernelRfl
namespace Go.Proofs.YtecfnngbomnnjaaDoor.Say
open Go.RowKit Go.Proofs.YtecfnngbomnnjaaDoor.PRen Go.Proofs.YtecfnngbomnnjaaDoor.Open Go.Proofs.YtecfnngbomnnjaaDoor.G Go.Proofs.YtecfnngbomnnjaaDoorW.PrintWords Go.Proofs.YtecfnngbomnnjaaDoorW.PrintLast Go.Proofs.YtecfnngbomnnjaaDoorW.PrintMore
set_option linter.unusedVariables false

theorem opensPathRenames_t9 : Opens Tryd.prog Kd.string 9 (fun x => x.size ≤ 140737488351232) := opens_string Tryd.underlying9 (by kernel_rfl)
theorem opensPathRenames_t22 : Opens Tryd.prog (Kd.slice 9 Kd.string) 22 (fun x => x.length * 16 ≤ 140737488351232 ∧ ∀ y0 ∈ x, y0.size ≤ 140737488351232) := opens_slice (B := 16) Tryd.underlying22 (by kernel_rfl) (by kernel_rfl) opensPathRenames_t9 (⟨#[]⟩ : ByteArray)

/-- THE ONE PURE STATEMENT of casketlaw11_PathRenames. -/
def SayPathRenames : Prop := ∀ (a0 : ByteArray) (a1 : ByteArray) (l2 : List ByteArray) (l3 : List ByteArray), (a0.size ≤ 140737488351232) → (a1.size ≤ 140737488351232) → (l2.length * 16 ≤ 140737488351232 ∧ ∀ y0 ∈ l2, y0.size ≤ 140737488351232) → (l3.length * 16 ≤ 140737488351232 ∧ ∀ y0 ∈ l3, y0.size ≤ 140737488351232) → ∃ k : Nat, casketlaw11_PathRenames.f k a0 a1 l2 l3 = some true

theorem walkPathRenames (P : SayPathRenames) (a0 : ByteArray) (a1 : ByteArray) (l2 : List ByteArray) (l3 : List ByteArray) (w : World) (A2 : Option Addr) (c2 : Nat) (A3 : Option Addr) (c3 : Nat) (hr2 : Kd.C Kd.string w A2 l2.length l2) (hc2 : l2.length ≤ c2) (hr3 : Kd.C Kd.string w A3 l3.length l3) (hc3 : l3.length ≤ c3) (g0 : a0.size ≤ 140737488351232) (g1 : a1.size ≤ 140737488351232) (g2 : l2.length * 16 ≤ 140737488351232 ∧ ∀ y0 ∈ l2, y0.size ≤ 140737488351232) (g3 : l3.length * 16 ≤ 140737488351232 ∧ ∀ y0 ∈ l3, y0.size ≤ 140737488351232) :
    Calls Tryd.prog 7 #[.string a0, .string a1, .slice A2 l2.length c2, .slice A3 l3.length c3] w fun e w' => e = .returned (.bool true) ∧ Below w.heap.size w w' := by
  obtain ⟨k, h⟩ := P a0 a1 l2 l3 g0 g1 g2 g3
  refine (casketlaw11_PathRenames.calls k a0 a1 A2 c2 l2 A3 c3 l3 true w hr2 hc2 hr3 hc3 h).mono ?_
  rintro e w' ⟨rfl, hd⟩
  exact ⟨rfl, hd⟩
end Go.Proofs.YtecfnngbomnnjaaDoor.Say
