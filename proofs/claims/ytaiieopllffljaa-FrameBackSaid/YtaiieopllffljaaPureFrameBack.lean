/- casketlaw9.FrameBack returns true for every input: what was packed comes back, under its kind and no other; packed to its Size it has just that many bytes. -/
import Derived.Test.YtaiieopllffljaaKitC
import Derived.Test.YtaiieopllffljaaPAllx5
namespace Go.Proofs.Ytaiieopllffljaa.Pure
open Go.RowKit Go.Proofs.Ytaiieopllffljaa.PAll Go.Proofs.Ytaiieopllffljaa.G Go.Proofs.Ytaiieopllffljaa.Kit Go.Proofs.YtaiieopllffljaaW.PrintWords Go.Proofs.YtaiieopllffljaaW.PrintLast Go.Proofs.YtaiieopllffljaaW.PrintMore
set_option linter.unusedVariables false

theorem FrameBack : casketlaw9_FrameBack.Pure := by
  intro a0 a1 a2 a3 h0 h1 h2 h3
  refine ⟨5, ?_⟩
  unfold casketlaw9_FrameBack.f
  obtain ⟨k, hk, k1, k2⟩ := clipped a0 1 255 (by omega) (by omega) (by omega) h0
  obtain ⟨o, ho, o1, o2⟩ := clipped a1 0 256 (by omega) (by omega) (by omega) h1
  obtain ⟨c, hc, c1, c2⟩ := clipped a3 0 70000 (by omega) (by omega) (by omega) h3
  obtain ⟨l, rfl⟩ := Int.eq_ofNat_of_zero_le c1
  rw [hk, Option.bind_some, ho, Option.bind_some, hc, Option.bind_some]
  by_cases z : (a2.size : Int) > 1048571
  · rw [if_pos z]
    have : frame_Pack.f k a2 1048576 = some ((⟨#[]⟩ : ByteArray), 90) := by
      unfold frame_Pack.f
      rw [if_neg (by omega), if_neg (by omega), if_pos (show (a2.size : Int) ≤ 140737488351232 by omega), if_pos (by omega)]
    rw [this, Option.bind_some]
    simp only [e_list, if_true, casketlaw9_num.f, Option.bind_some]
    rfl
  rw [if_neg z]
  have m0 := bk_ge (max (a2.size + 5) l)
  have n0 := bk_le (max (a2.size + 5) l) (by omega)
  have q0 : a2.size + 5 ≤ max (a2.size + 5) l := Nat.le_max_left _ _
  have q1 : l ≤ max (a2.size + 5) l := Nat.le_max_right _ _
  rw [size_ok a2.size l (by omega) (by omega) 4, Option.bind_some, pack_f k a2 _ k1 k2 (by omega) (by omega), Option.bind_some]
  simp only [casketlaw9_num.f, Option.bind_some, if_true]
  have s0 := frm_size k a2 (((bk (max (a2.size + 5) l) : Nat) : Int) - (a2.size : Int) - 5).toNat
  rw [show 5 + a2.size + (((bk (max (a2.size + 5) l) : Nat) : Int) - (a2.size : Int) - 5).toNat = bk (max (a2.size + 5) l) by omega] at s0
  have hm : 5 + a2.size + (((bk (max (a2.size + 5) l) : Nat) : Int) - (a2.size : Int) - 5).toNat ≤ 1048576 := by omega
  rw [s0, if_pos rfl, if_neg (by omega), w_id (n := (a2.size : Int) + 5) (by omega) (by omega), decide_eq_false (by omega)]
  simp only [casketlaw9_FrameBack.j0, Bool.false_eq_true, if_false]
  rw [unpack_frm k a2 _ k1 k2 hm, Option.bind_some]
  simp only [casketlaw9_num.f, Option.bind_some, if_true]
  rw [show (a2.toList != a2.toList) = false by simp]
  simp only [casketlaw9_FrameBack.j1, Bool.false_eq_true, if_false]
  by_cases e : o = k
  · subst e
    rw [unpack_frm o a2 _ k1 k2 hm, Option.bind_some, if_pos rfl]
  · rw [unpack_frm_other k o a2 _ k1 k2 hm e, Option.bind_some, if_neg e]
    simp only [e_list, if_true, casketlaw9_num.f, Option.bind_some]
    rfl

end Go.Proofs.Ytaiieopllffljaa.Pure
