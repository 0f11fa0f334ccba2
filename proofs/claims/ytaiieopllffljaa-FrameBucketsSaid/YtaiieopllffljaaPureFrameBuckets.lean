/- casketlaw9.FrameBuckets returns true for every input: Padme of any number is the document's. -/
import Derived.Test.YtaiieopllffljaaKitC
import Derived.Test.YtaiieopllffljaaPAllx2
namespace Go.Proofs.Ytaiieopllffljaa.Pure
open Go.RowKit Go.Proofs.Ytaiieopllffljaa.PAll Go.Proofs.Ytaiieopllffljaa.G Go.Proofs.Ytaiieopllffljaa.Kit Go.Proofs.YtaiieopllffljaaW.PrintWords Go.Proofs.YtaiieopllffljaaW.PrintLast Go.Proofs.YtaiieopllffljaaW.PrintMore
set_option linter.unusedVariables false

theorem FrameBuckets : casketlaw9_FrameBuckets.Pure := by
  intro a0 h0
  refine ⟨3000000, ?_⟩
  unfold casketlaw9_FrameBuckets.f
  have e : casketref9_Padme.f 3000000 a0 = frame_Padme.f a0 := by
    unfold casketref9_Padme.f frame_Padme.f
    split
    · rfl
    split
    · rfl
    obtain ⟨n, rfl⟩ := Int.eq_ofNat_of_zero_le (by omega : 0 ≤ a0)
    rw [ref_bucket n (by omega) _ (by omega), bucket n (by omega)]
  have hs : ∃ p, frame_Padme.f a0 = some p := by
    unfold frame_Padme.f
    split
    · exact ⟨_, rfl⟩
    split
    · exact ⟨_, rfl⟩
    obtain ⟨n, rfl⟩ := Int.eq_ofNat_of_zero_le (by omega : 0 ≤ a0)
    rw [bucket n (by omega)]
    exact ⟨_, rfl⟩
  obtain ⟨p, hp⟩ := hs
  rw [e, hp]
  simp only [Option.bind_some, casketlaw9_num.f, if_true]
  simp

end Go.Proofs.Ytaiieopllffljaa.Pure
