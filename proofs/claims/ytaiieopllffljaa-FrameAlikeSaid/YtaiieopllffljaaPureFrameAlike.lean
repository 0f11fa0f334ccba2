/- casketlaw9.FrameAlike returns true for every input: a frame's length hangs on the bucket alone, and frames part just where bodies part. -/
import Derived.Test.YtaiieopllffljaaKitC
import Derived.Test.YtaiieopllffljaaPAllx4
namespace Go.Proofs.Ytaiieopllffljaa.Pure
open Go.RowKit Go.Proofs.Ytaiieopllffljaa.PAll Go.Proofs.Ytaiieopllffljaa.G Go.Proofs.Ytaiieopllffljaa.Kit Go.Proofs.YtaiieopllffljaaW.PrintWords Go.Proofs.YtaiieopllffljaaW.PrintLast Go.Proofs.YtaiieopllffljaaW.PrintMore
set_option linter.unusedVariables false

theorem frm_inj (k : Int) (a b : ByteArray) (m n : Nat) (ha : a.size ≤ 1048576) (hb : b.size ≤ 1048576) (h : frm k a m = frm k b n) : a = b := by
  have h1 := frm_n k a m ha
  have h2 := frm_n k b n hb
  rw [h] at h1
  have hs : a.size = b.size := by omega
  have e1 := frm_body k a m
  have e2 := frm_body k b n
  rw [h, hs] at e1
  rw [← e1, e2]
theorem list_eq (a b : ByteArray) : (a.toList == b.toList) = decide (a = b) := by
  have : a.toList = b.toList ↔ a = b := by
    rw [ByteArray.toList_eq, ByteArray.toList_eq]
    exact ⟨fun h => ByteArray.ext (Array.ext' h), fun h => by rw [h]⟩
  by_cases h : a = b
  · rw [decide_eq_true h, h]; simp
  · rw [decide_eq_false h]
    exact beq_eq_false_iff_ne.2 fun hc => h (this.1 hc)
theorem FrameAlike : casketlaw9_FrameAlike.Pure := by
  intro a0 a1 a2 h0 h1 h2
  refine ⟨3, ?_⟩
  unfold casketlaw9_FrameAlike.f
  obtain ⟨c, hc, c1, c2⟩ := clipped a2 0 70000 (by omega) (by omega) (by omega) h2
  obtain ⟨l, rfl⟩ := Int.eq_ofNat_of_zero_le c1
  rw [hc, Option.bind_some]
  by_cases z0 : (a0.size : Int) > 100000
  · rw [if_pos z0]
    simp only [casketlaw9_FrameAlike.j0, if_true]
  rw [if_neg z0]
  by_cases z1 : (a1.size : Int) > 100000
  · rw [decide_eq_true z1]
    simp only [casketlaw9_FrameAlike.j0, if_true]
  rw [decide_eq_false z1]
  simp only [casketlaw9_FrameAlike.j0, Bool.false_eq_true, if_false]
  have m0 := bk_ge (max (a0.size + 5) l)
  have m1 := bk_ge (max (a1.size + 5) l)
  have n0 := bk_le (max (a0.size + 5) l) (by omega)
  have n1 := bk_le (max (a1.size + 5) l) (by omega)
  have k0 : a0.size + 5 ≤ max (a0.size + 5) l := Nat.le_max_left _ _
  have k1 : a1.size + 5 ≤ max (a1.size + 5) l := Nat.le_max_left _ _
  rw [size_ok a0.size l (by omega) (by omega) 1, size_ok a1.size l (by omega) (by omega) 1, Option.bind_some, Option.bind_some]
  simp only [casketlaw9_num.f, Option.bind_some, if_true]
  rw [show ((0 : Int) != 0) = false by rfl]
  simp only [casketlaw9_FrameAlike.j1, Bool.false_eq_true, if_false]
  rw [pack_f 1 a0 _ (by omega) (by omega) (by omega) (by omega), pack_f 1 a1 _ (by omega) (by omega) (by omega) (by omega), Option.bind_some, Option.bind_some]
  simp only [casketlaw9_num.f, Option.bind_some, if_true]
  have s0 := frm_size 1 a0 (((bk (max (a0.size + 5) l) : Nat) : Int) - (a0.size : Int) - 5).toNat
  have s1 := frm_size 1 a1 (((bk (max (a1.size + 5) l) : Nat) : Int) - (a1.size : Int) - 5).toNat
  rw [show 5 + a0.size + (((bk (max (a0.size + 5) l) : Nat) : Int) - (a0.size : Int) - 5).toNat = bk (max (a0.size + 5) l) by omega] at s0
  rw [show 5 + a1.size + (((bk (max (a1.size + 5) l) : Nat) : Int) - (a1.size : Int) - 5).toNat = bk (max (a1.size + 5) l) by omega] at s1
  rw [s0, s1, beq_self_eq_true, if_pos rfl, list_eq, list_eq]
  congr 1
  by_cases e : a0 = a1
  · subst e
    simp
  · rw [decide_eq_false e, decide_eq_false fun hc => e (frm_inj 1 a0 a1 _ _ (by omega) (by omega) hc)]
    rfl

end Go.Proofs.Ytaiieopllffljaa.Pure
