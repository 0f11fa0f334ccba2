/- casketlaw11.PathTexts returns true for every input: Text of any list is the document's; the list is left as it was, its spare room too. -/
import Derived.Test.YtecfnngbomnnjaaKitP
import Derived.Test.YtecfnngbomnnjaaSayPathTexts
namespace Go.Proofs.Ytecfnngbomnnjaa.Pure
open Go.RowKit Go.Proofs.Ytecfnngbomnnjaa.PAll Go.Proofs.Ytecfnngbomnnjaa.G Go.Proofs.Ytecfnngbomnnjaa.Kit Go.Proofs.Ytecfnngbomnnjaa.Open Go.Proofs.Ytecfnngbomnnjaa.Say Go.Proofs.YtecfnngbomnnjaaW.PrintWords Go.Proofs.YtecfnngbomnnjaaW.PrintLast Go.Proofs.YtecfnngbomnnjaaW.PrintMore
set_option linter.unusedVariables false

theorem PathTexts : SayPathTexts := by
  intro l0 h0
  obtain ⟨K, hK⟩ : ∃ K, l0.length + 100 ≤ K := ⟨_, Nat.le_refl _⟩
  refine ⟨K, ?_⟩
  unfold casketlaw11_PathTexts.f casketlaw11_roomy.f
  rw [if_pos h0.1]
  simp only [Option.bind_some]
  have m3 : marks.length = 3 := rfl
  have e0 : (l0 ++ marks).length = l0.length + 3 := by rw [List.length_append, m3]
  rw [if_pos (by omega), if_pos (by omega), Int.toNat_natCast, List.take_left' rfl]
  rw [path_text, ref_text l0 (by omega) K (by omega)]
  simp only [Option.bind_some, casketlaw11_num.f, if_true]
  rw [same_f _ _ (by omega) K (by omega), decide_eq_true rfl]
  rfl

end Go.Proofs.Ytecfnngbomnnjaa.Pure
