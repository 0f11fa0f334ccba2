/- casketlaw9.FrameSizes returns true for every input: Size of any two numbers is the document's. -/
import Derived.Test.YtaiieopllffljaaKitC
import Derived.Test.YtaiieopllffljaaPAllx2
namespace Go.Proofs.Ytaiieopllffljaa.Pure
open Go.RowKit Go.Proofs.Ytaiieopllffljaa.PAll Go.Proofs.Ytaiieopllffljaa.G Go.Proofs.Ytaiieopllffljaa.Kit Go.Proofs.YtaiieopllffljaaW.PrintWords Go.Proofs.YtaiieopllffljaaW.PrintLast Go.Proofs.YtaiieopllffljaaW.PrintMore
set_option linter.unusedVariables false

theorem FrameSizes : casketlaw9_FrameSizes.Pure := by
  intro a0 a1 h0 h1
  obtain ⟨K, hK⟩ : ∃ K, K = 3000000 := ⟨_, rfl⟩
  refine ⟨K + 2, ?_⟩
  unfold casketlaw9_FrameSizes.f
  have e : casketref9_Size.f (K + 2) a0 a1 = frame_Size.f (K + 2) a0 a1 ∧ ∃ p, frame_Size.f (K + 2) a0 a1 = some p := by
    unfold casketref9_Size.f frame_Size.f
    by_cases c1 : a0 < 0
    · rw [if_pos c1, if_pos c1]
      simp only [casketref9_Size.j0, frame_Size.j0, if_true]
      exact ⟨by simp, _, rfl⟩
    rw [if_neg c1, if_neg c1]
    by_cases c2 : a1 < 0
    · rw [decide_eq_true c2]
      simp only [casketref9_Size.j0, frame_Size.j0, if_true]
      exact ⟨by simp, _, rfl⟩
    rw [decide_eq_false c2]
    simp only [casketref9_Size.j0, frame_Size.j0, Bool.false_eq_true, if_false]
    by_cases c3 : a0 > 1048571
    · rw [if_pos c3, if_pos c3]
      simp only [casketref9_Size.j1, if_true]
      exact ⟨by simp, _, rfl⟩
    rw [if_neg c3, if_neg c3]
    by_cases c4 : a1 > 1048576
    · rw [if_pos c4, decide_eq_true c4]
      simp only [casketref9_Size.j1, if_true]
      exact ⟨by simp, _, rfl⟩
    rw [if_neg c4, decide_eq_false c4]
    simp only [casketref9_Size.j1, Bool.false_eq_true, if_false]
    obtain ⟨n, rfl⟩ := Int.eq_ofNat_of_zero_le (by omega : 0 ≤ a0)
    obtain ⟨l, rfl⟩ := Int.eq_ofNat_of_zero_le (by omega : 0 ≤ a1)
    have e5 : wrap64 ((n : Int) + 5) = ((n + 5 : Nat) : Int) := by rw [w_id (by omega) (by omega)]; omega
    rw [e5]
    have em : mx ((n + 5 : Nat) : Int) (l : Int) = ((max (n + 5) l : Nat) : Int) := by
      unfold mx
      split <;> omega
    rw [em, bucket _ (by omega)]
    refine ⟨?_, _, rfl⟩
    by_cases c5 : ((n + 5 : Nat) : Int) > (l : Int)
    · rw [if_pos c5, ref_bucket _ (by omega) _ (by omega), Nat.max_eq_left (by omega)]
    · rw [if_neg c5, ref_bucket _ (by omega) _ (by omega), Nat.max_eq_right (by omega)]
  obtain ⟨e, p, hp⟩ := e
  rw [e, hp]
  simp only [Option.bind_some, casketlaw9_num.f, if_true]
  simp

end Go.Proofs.Ytaiieopllffljaa.Pure
