-- Printed by wip/lawrow.py of this session. Not trusted: Lean checks it.
import Derived.Test.YtecfnngbomnnjaaDoorPAllx4
import Derived.Test.YtecfnngbomnnjaaDoorGOpen
import Derived.KernelRfl
namespace Go.Proofs.YtecfnngbomnnjaaDoor.Say
open Go.RowKit Go.Proofs.YtecfnngbomnnjaaDoor.PAll Go.Proofs.YtecfnngbomnnjaaDoor.Open Go.Proofs.YtecfnngbomnnjaaDoor.G Go.Proofs.YtecfnngbomnnjaaDoorW.PrintWords Go.Proofs.YtecfnngbomnnjaaDoorW.PrintLast Go.Proofs.YtecfnngbomnnjaaDoorW.PrintMore
set_option linter.unusedVariables false

theorem opensPathMaps_t9 : Opens Tryd.prog Kd.string 9 (fun x => x.size ≤ 140737488351232) := opens_string Tryd.underlying9 (by kernel_rfl)
theorem opensPathMaps_t22 : Opens Tryd.prog (Kd.slice 9 Kd.string) 22 (fun x => x.length * 16 ≤ 140737488351232 ∧ ∀ y0 ∈ x, y0.size ≤ 140737488351232) := opens_slice (B := 16) Tryd.underlying22 (by kernel_rfl) (by kernel_rfl) opensPathMaps_t9 (⟨#[]⟩ : ByteArray)

/-- THE ONE PURE STATEMENT of casketlaw11_PathMaps. -/
def SayPathMaps : Prop := ∀ (a0 : ByteArray) (l1 : List ByteArray) (l2 : List ByteArray), (a0.size ≤ 140737488351232) → (l1.length * 16 ≤ 140737488351232 ∧ ∀ y0 ∈ l1, y0.size ≤ 140737488351232) → (l2.length * 16 ≤ 140737488351232 ∧ ∀ y0 ∈ l2, y0.size ≤ 140737488351232) → ∃ k : Nat, casketlaw11_PathMaps.f k a0 l1 l2 = some true

theorem walkPathMaps (P : SayPathMaps) (a0 : ByteArray) (l1 : List ByteArray) (l2 : List ByteArray) (w : World) (A1 : Option Addr) (c1 : Nat) (A2 : Option Addr) (c2 : Nat) (hr1 : Kd.C Kd.string w A1 l1.length l1) (hc1 : l1.length ≤ c1) (hr2 : Kd.C Kd.string w A2 l2.length l2) (hc2 : l2.length ≤ c2) (g0 : a0.size ≤ 140737488351232) (g1 : l1.length * 16 ≤ 140737488351232 ∧ ∀ y0 ∈ l1, y0.size ≤ 140737488351232) (g2 : l2.length * 16 ≤ 140737488351232 ∧ ∀ y0 ∈ l2, y0.size ≤ 140737488351232) :
    Calls Tryd.prog 6 #[.string a0, .slice A1 l1.length c1, .slice A2 l2.length c2] w fun e w' => e = .returned (.bool true) ∧ Below w.heap.size w w' := by
  obtain ⟨k, h⟩ := P a0 l1 l2 g0 g1 g2
  refine (casketlaw11_PathMaps.calls k a0 A1 c1 l1 A2 c2 l2 true w hr1 hc1 hr2 hc2 h).mono ?_
  rintro e w' ⟨rfl, hd⟩
  exact ⟨rfl, hd⟩
end Go.Proofs.YtecfnngbomnnjaaDoor.Say
