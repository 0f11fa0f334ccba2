/- casketlaw9.FramePacks returns true for every input: Pack of anything, and Unpack of what it answers under any kind, are the document's. -/
import Derived.Test.YtaiieopllffljaaKitC
import Derived.Test.YtaiieopllffljaaPAllx4
namespace Go.Proofs.Ytaiieopllffljaa.Pure
open Go.RowKit Go.Proofs.Ytaiieopllffljaa.PAll Go.Proofs.Ytaiieopllffljaa.G Go.Proofs.Ytaiieopllffljaa.Kit Go.Proofs.YtaiieopllffljaaW.PrintWords Go.Proofs.YtaiieopllffljaaW.PrintLast Go.Proofs.YtaiieopllffljaaW.PrintMore
set_option linter.unusedVariables false

theorem FramePacks : casketlaw9_FramePacks.Pure := by
  intro a0 a1 a2 a3 h0 h1 h2 h3
  obtain ⟨K, hK⟩ : ∃ K, 4000000 ≤ K := ⟨4000000, Nat.le_refl _⟩
  refine ⟨K + 1, ?_⟩
  unfold casketlaw9_FramePacks.f
  rw [ref_pack a0 a1 a2 h0 h2 h1 (K + 1) (by omega)]
  have hs : ∃ p, frame_Pack.f a0 a1 a2 = some p ∧ p.1.size ≤ 1048576 := by
    unfold frame_Pack.f
    split
    · exact ⟨_, rfl, by decide⟩
    split
    · exact ⟨_, rfl, by decide⟩
    rw [if_pos (by omega)]
    split
    · exact ⟨_, rfl, by decide⟩
    · refine ⟨_, rfl, ?_⟩
      have := frm_size a0 a1 (a2 - (a1.size : Int) - 5).toNat
      show (frm a0 a1 (a2 - (a1.size : Int) - 5).toNat).size ≤ 1048576
      omega
  obtain ⟨p, hp, hz⟩ := hs
  rw [hp]
  simp only [Option.bind_some, casketlaw9_num.f, if_true]
  rw [show (p.2 != p.2) = false by simp]
  simp only [casketlaw9_FramePacks.j0, Bool.false_eq_true, if_false]
  rw [ref_unpack a3 p.1 (by omega) K (by omega)]
  have hs : ∃ q, frame_Unpack.f a3 p.1 = some q := by
    unfold frame_Unpack.f
    (repeat' split) <;> exact ⟨_, rfl⟩
  obtain ⟨q, hq⟩ := hs
  rw [hq]
  simp only [Option.bind_some, casketlaw9_num.f, if_true]
  simp

end Go.Proofs.Ytaiieopllffljaa.Pure
