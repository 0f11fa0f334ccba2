/- casketlaw9.FrameUnpacks returns true for every input: Unpack answers as the document's Unpack does, of any kind and any text. -/
import Derived.Test.YtaiieopllffljaaKitC
import Derived.Test.YtaiieopllffljaaPAllx1
namespace Go.Proofs.Ytaiieopllffljaa.Pure
open Go.RowKit Go.Proofs.Ytaiieopllffljaa.PAll Go.Proofs.Ytaiieopllffljaa.G Go.Proofs.Ytaiieopllffljaa.Kit Go.Proofs.YtaiieopllffljaaW.PrintWords Go.Proofs.YtaiieopllffljaaW.PrintLast Go.Proofs.YtaiieopllffljaaW.PrintMore
set_option linter.unusedVariables false

theorem FrameUnpacks : casketlaw9_FrameUnpacks.Pure := by
  intro a0 a1 h0 h1
  refine ⟨2000000, ?_⟩
  unfold casketlaw9_FrameUnpacks.f
  rw [ref_unpack a0 a1 h1 2000000 (by omega)]
  have hs : ∃ p, frame_Unpack.f a0 a1 = some p := by
    unfold frame_Unpack.f
    (repeat' split) <;> exact ⟨_, rfl⟩
  obtain ⟨p, hp⟩ := hs
  rw [hp]
  simp only [Option.bind_some, casketlaw9_num.f, if_true]
  simp

end Go.Proofs.Ytaiieopllffljaa.Pure
