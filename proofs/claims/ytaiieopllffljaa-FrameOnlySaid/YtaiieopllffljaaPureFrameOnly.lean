/- casketlaw9.FrameOnly returns true for every input: what Unpack takes is just what Pack writes of its answer, at the text's own length. -/
import Derived.Test.YtaiieopllffljaaKitC
import Derived.Test.YtaiieopllffljaaPAllx4
namespace Go.Proofs.Ytaiieopllffljaa.Pure
open Go.RowKit Go.Proofs.Ytaiieopllffljaa.PAll Go.Proofs.Ytaiieopllffljaa.G Go.Proofs.Ytaiieopllffljaa.Kit Go.Proofs.YtaiieopllffljaaW.PrintWords Go.Proofs.YtaiieopllffljaaW.PrintLast Go.Proofs.YtaiieopllffljaaW.PrintMore
set_option linter.unusedVariables false

theorem FrameOnly : casketlaw9_FrameOnly.Pure := by
  intro a0 a1 h0 h1
  refine ⟨1, ?_⟩
  unfold casketlaw9_FrameOnly.f
  rw [pack_f 7 ⟨#[120]⟩ 8 (by omega) (by omega) (by omega) (by decide)]
  simp only [Option.bind_some]
  rw [unpack_frm 7 ⟨#[120]⟩ _ (by omega) (by omega) (by decide)]
  simp only [Option.bind_some, casketlaw9_num.f, if_true]
  rw [show ((⟨#[120]⟩ : ByteArray).toList != ([120] : List UInt8)) = false by decide +kernel]
  simp only [casketlaw9_FrameOnly.j0, Bool.false_eq_true, if_false]
  by_cases c1 : (a1.size : Int) > 1048576
  · have : frame_Unpack.f a0 a1 = some ((⟨#[]⟩ : ByteArray), 3) := by unfold frame_Unpack.f; rw [if_pos c1]
    rw [this]
    simp only [Option.bind_some, casketlaw9_num.f]
    rw [if_neg (by decide), e_list]
    rfl
  by_cases c2 : a0 < 1 ∨ a0 > 255 ∨ (a1.size : Int) < 5 ∨ bt a1 0 ≠ a0
  · have : frame_Unpack.f a0 a1 = some ((⟨#[]⟩ : ByteArray), 92) := by unfold frame_Unpack.f; rw [if_neg c1, if_pos c2]
    rw [this]
    simp only [Option.bind_some, casketlaw9_num.f]
    rw [if_neg (by decide), e_list]
    rfl
  by_cases c3 : headN a1 > (a1.size : Int) - 5
  · have : frame_Unpack.f a0 a1 = some ((⟨#[]⟩ : ByteArray), 90) := by unfold frame_Unpack.f; rw [if_neg c1, if_neg c2, if_pos c3]
    rw [this]
    simp only [Option.bind_some, casketlaw9_num.f]
    rw [if_neg (by decide), e_list]
    rfl
  by_cases c4 : allz a1 (5 + (headN a1).toNat) = true
  · have : frame_Unpack.f a0 a1 = some (a1.extract 5 (5 + (headN a1).toNat), 0) := by unfold frame_Unpack.f; rw [if_neg c1, if_neg c2, if_neg c3, if_pos c4]
    rw [this]
    simp only [Option.bind_some, casketlaw9_num.f, if_true]
    have b1 := bt_range a1 1
    have b2 := bt_range a1 2
    have b3 := bt_range a1 3
    have b4 := bt_range a1 4
    have hn : 0 ≤ headN a1 := by unfold headN; omega
    have hsz : (a1.extract 5 (5 + (headN a1).toNat)).size = (headN a1).toNat := by
      rw [ByteArray.size_extract]
      omega
    rw [pack_f a0 _ _ (by omega) (by omega) (by omega) (by rw [hsz]; omega)]
    simp only [Option.bind_some, if_true]
    rw [hsz]
    have := only_frame a0 a1 (by omega) (by omega) (by omega) (by omega) (by omega) c4 (by omega)
    rw [this]
    simp
  · have : frame_Unpack.f a0 a1 = some ((⟨#[]⟩ : ByteArray), 91) := by unfold frame_Unpack.f; rw [if_neg c1, if_neg c2, if_neg c3, if_neg c4]
    rw [this]
    simp only [Option.bind_some, casketlaw9_num.f]
    rw [if_neg (by decide), e_list]
    rfl

end Go.Proofs.Ytaiieopllffljaa.Pure
