/- casketlaw11.PathInside returns true for every input: Inside of any two lists is the document's; they are left as they were. -/
import Derived.Test.YtecfnngbomnnjaaKitP
import Derived.Test.YtecfnngbomnnjaaSayPathInside
namespace Go.Proofs.Ytecfnngbomnnjaa.Pure
open Go.RowKit Go.Proofs.Ytecfnngbomnnjaa.PAll Go.Proofs.Ytecfnngbomnnjaa.G Go.Proofs.Ytecfnngbomnnjaa.Kit Go.Proofs.Ytecfnngbomnnjaa.Open Go.Proofs.Ytecfnngbomnnjaa.Say Go.Proofs.YtecfnngbomnnjaaW.PrintWords Go.Proofs.YtecfnngbomnnjaaW.PrintLast Go.Proofs.YtecfnngbomnnjaaW.PrintMore
set_option linter.unusedVariables false

theorem PathInside : SayPathInside := by
  intro l0 l1 h0 h1
  obtain ⟨K, hK⟩ : ∃ K, l0.length + l1.length + 100 ≤ K := ⟨_, Nat.le_refl _⟩
  refine ⟨K, ?_⟩
  unfold casketlaw11_PathInside.f casketlaw11_roomy.f
  rw [if_pos h0.1, if_pos h1.1]
  simp only [Option.bind_some]
  have m3 : marks.length = 3 := rfl
  have e0 : (l0 ++ marks).length = l0.length + 3 := by rw [List.length_append, m3]
  have e1 : (l1 ++ marks).length = l1.length + 3 := by rw [List.length_append, m3]
  rw [if_pos (by omega), if_pos (by omega), if_pos (by omega), if_pos (by omega)]
  rw [Int.toNat_natCast, Int.toNat_natCast, List.take_left' rfl, List.take_left' rfl]
  unfold path_Inside.f
  rw [Option.bind_some, ref_inside l0 l1 (by omega) K (by omega), Option.bind_some, beq_self_eq_true, if_pos rfl]
  rw [same_f _ _ (by omega) K (by omega), decide_eq_true rfl]
  simp only [Option.bind_some, if_true]
  rw [same_f _ _ (by omega) K (by omega), decide_eq_true rfl]
  rfl

end Go.Proofs.Ytecfnngbomnnjaa.Pure
