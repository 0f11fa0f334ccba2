-- Printed by wip/lawrow.py of this session. Not trusted: Lean checks it.
import Derived.Test.YtecfnngbomnnjaaPAllx2
import Derived.Test.YtecfnngbomnnjaaGOpen
import Derived.KernelRfl
namespace Go.Proofs.Ytecfnngbomnnjaa.Say
open Go.RowKit Go.Proofs.Ytecfnngbomnnjaa.PAll Go.Proofs.Ytecfnngbomnnjaa.Open Go.Proofs.Ytecfnngbomnnjaa.G Go.Proofs.YtecfnngbomnnjaaW.PrintWords Go.Proofs.YtecfnngbomnnjaaW.PrintLast Go.Proofs.YtecfnngbomnnjaaW.PrintMore
set_option linter.unusedVariables false

theorem opensPathTexts_t9 : Opens Try.prog Kd.string 9 (fun x => x.size ≤ 140737488351232) := opens_string Try.underlying9 (by kernel_rfl)
theorem opensPathTexts_t27 : Opens Try.prog (Kd.slice 9 Kd.string) 27 (fun x => x.length * 16 ≤ 140737488351232 ∧ ∀ y0 ∈ x, y0.size ≤ 140737488351232) := opens_slice (B := 16) Try.underlying27 (by kernel_rfl) (by kernel_rfl) opensPathTexts_t9 (⟨#[]⟩ : ByteArray)

/-- THE ONE PURE STATEMENT of casketlaw11_PathTexts. -/
def SayPathTexts : Prop := ∀ (l0 : List ByteArray), (l0.length * 16 ≤ 140737488351232 ∧ ∀ y0 ∈ l0, y0.size ≤ 140737488351232) → ∃ k : Nat, casketlaw11_PathTexts.f k l0 = some true

theorem walkPathTexts (P : SayPathTexts) (l0 : List ByteArray) (w : World) (A0 : Option Addr) (c0 : Nat) (hr0 : Kd.C Kd.string w A0 l0.length l0) (hc0 : l0.length ≤ c0) (g0 : l0.length * 16 ≤ 140737488351232 ∧ ∀ y0 ∈ l0, y0.size ≤ 140737488351232) :
    Calls Try.prog 5 #[.slice A0 l0.length c0] w fun e w' => e = .returned (.bool true) ∧ Below w.heap.size w w' := by
  obtain ⟨k, h⟩ := P l0 g0
  refine (casketlaw11_PathTexts.calls k A0 c0 l0 true w hr0 hc0 h).mono ?_
  rintro e w' ⟨rfl, hd⟩
  exact ⟨rfl, hd⟩
end Go.Proofs.Ytecfnngbomnnjaa.Say
