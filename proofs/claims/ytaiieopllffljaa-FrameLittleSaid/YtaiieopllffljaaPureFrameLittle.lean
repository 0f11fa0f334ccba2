/- casketlaw9.FrameLittle returns true for every input: a bucket is little more than the length, there are few of them between two powers of two, and they rise with the length. -/
import Derived.Test.YtaiieopllffljaaKitC
import Derived.Test.YtaiieopllffljaaPAllx3
namespace Go.Proofs.Ytaiieopllffljaa.Pure
open Go.RowKit Go.Proofs.Ytaiieopllffljaa.PAll Go.Proofs.Ytaiieopllffljaa.G Go.Proofs.Ytaiieopllffljaa.Kit Go.Proofs.YtaiieopllffljaaW.PrintWords Go.Proofs.YtaiieopllffljaaW.PrintLast Go.Proofs.YtaiieopllffljaaW.PrintMore
set_option linter.unusedVariables false

theorem little_j1 (n e : Nat) (K : Nat) (hK : 3000000 ≤ K) (e1 : 1 ≤ e) (e2 : e ≤ 20) (g : n ≤ 1048576) (hmod : n % 2 ^ tz e = 0) (hpw : n ≤ 2 ^ (e + 1)) :
    casketlaw9_FrameLittle.j1 (K + 1) n e (dg e) false = some true := by
  have htw := dg_twice e e1 e2
  have hdl := dg_le e e1
  have htz : (e : Int) - (dg e : Int) = ((tz e : Nat) : Int) := by unfold tz; omega
  have ht20 : tz e ≤ 20 := by unfold tz; omega
  have hq : 0 < 2 ^ tz e := Nat.two_pow_pos _
  have cq : ((2 : Int) ^ tz e) = ((2 ^ tz e : Nat) : Int) := by simp
  have cd : ((2 : Int) ^ dg e) = ((2 ^ dg e : Nat) : Int) := by simp
  have ce : ((2 : Int) ^ (e + 1)) = ((2 ^ (e + 1) : Nat) : Int) := by simp
  simp only [casketlaw9_FrameLittle.j1, Bool.false_eq_true, if_false]
  rw [w_id (n := (e : Int) - (dg e : Int)) (by omega) (by omega), htz, power (tz e) (by omega) K (by omega)]
  rw [Option.bind_some]
  rw [cq]
  obtain ⟨q, hqq⟩ : ∃ q, 2 ^ tz e = q := ⟨_, rfl⟩
  rw [hqq] at hmod hq ⊢
  rw [if_neg (by omega), Int.tmod_eq_emod_of_nonneg (by omega), if_pos (by omega), power (dg e) (by omega) K (by omega)]
  rw [Option.bind_some]
  rw [cd]
  obtain ⟨d, hdd⟩ : ∃ d, 2 ^ dg e = d := ⟨_, rfl⟩
  rw [hdd] at htw ⊢
  rw [w_id (n := 2 * (e : Int)) (by omega) (by omega), if_pos (by omega), w_id (n := (e : Int) + 1) (by omega) (by omega), show (e : Int) + 1 = ((e + 1 : Nat) : Int) by omega, power (e + 1) (by omega) K (by omega)]
  rw [Option.bind_some]
  rw [ce]
  obtain ⟨p, hpp⟩ : ∃ p, 2 ^ (e + 1) = p := ⟨_, rfl⟩
  rw [hpp] at hpw ⊢
  rw [decide_eq_true (by omega)]
theorem little_j0 (n b e d : Nat) (K : Nat) (hK : 3000000 ≤ K) (e1 : 1 ≤ e) (e2 : e ≤ 20) (g : b ≤ 1048576) (g1 : n ≤ b) (g4 : b ≤ d) (hmod : b % 2 ^ tz e = 0) (hpw : b ≤ 2 ^ (e + 1))
    (p1 : 2 ^ e ≤ n) (p2 : n < 2 ^ (e + 1)) (hlit : (b - n) * (e + 1) < n) :
    casketlaw9_FrameLittle.j0 (K + 2) n b b d false = some true := by
  simp only [casketlaw9_FrameLittle.j0, Bool.false_eq_true, if_false]
  rw [exponent n e p1 p2 (by omega) (K + 1) (by omega)]
  simp only [Option.bind_some]
  rw [digits e e2 (K + 1) (by omega)]
  simp only [Option.bind_some]
  rw [if_neg (by omega)]
  simp only [if_true]
  have hx : ((b : Int) - n) * ((e : Int) + 1) = (((b - n) * (e + 1) : Nat) : Int) := by
    rw [show (b : Int) - n = ((b - n : Nat) : Int) by omega, show (e : Int) + 1 = ((e + 1 : Nat) : Int) by omega, Int.natCast_mul]
  rw [if_neg (by omega), w_id (n := (b : Int) - n) (by omega) (by omega), w_id (n := (e : Int) + 1) (by omega) (by omega), hx]
  generalize (b - n) * (e + 1) = z at hlit
  rw [w_id (n := (z : Int)) (by omega) (by omega), decide_eq_false (by omega)]
  exact little_j1 b e K hK e1 e2 g hmod hpw

theorem FrameLittle : casketlaw9_FrameLittle.Pure := by
  intro a0 a1 h0 h1
  obtain ⟨K, hK⟩ : ∃ K, 3000000 ≤ K := ⟨3000000, Nat.le_refl _⟩
  refine ⟨K + 2, ?_⟩
  unfold casketlaw9_FrameLittle.f
  obtain ⟨c, hc, c1, c2⟩ := clipped a0 2 1048576 (by omega) (by omega) (by omega) h0
  obtain ⟨n, rfl⟩ := Int.eq_ofNat_of_zero_le (by omega : 0 ≤ c)
  obtain ⟨d, hd, d1, d2⟩ := clipped a1 n 1048576 (by omega) (by omega) (by omega) h1
  obtain ⟨m, rfl⟩ := Int.eq_ofNat_of_zero_le (by omega : 0 ≤ d)
  have g1 := bk_ge n
  have g2 := bk_le n (by omega)
  have g3 := bk_bk n (by omega)
  have g4 := bk_mono n m (by omega) (by omega)
  obtain ⟨e, e1, e2, p1, p2⟩ := exp1 n (by omega) (by omega)
  have hb := bk_eq n e (by omega) p1 p2
  have hlit := bkE_little e n e1 e2 p1
  have hmod := bkE_mod e n
  have hpw := bkE_le_pow e n e1 (by omega)
  rw [← hb] at hlit hmod hpw
  rw [hc]
  simp only [Option.bind_some]
  rw [hd]
  simp only [Option.bind_some]
  rw [padme n (by omega)]
  simp only [Option.bind_some]
  rw [padme (bk n) (by omega), padme m (by omega), g3]
  simp only [Option.bind_some, casketlaw9_num.f, if_true]
  exact little_j0 n (bk n) e (bk m) K hK e1 e2 g2 g1 g4 hmod hpw p1 p2 hlit

end Go.Proofs.Ytaiieopllffljaa.Pure
