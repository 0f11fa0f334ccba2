/- Plain laws of the frame's numbers: powers, exponents, digits, the bucket; what the document's Unpack and Pack answer. -/
import Derived.Test.YtaiieopllffljaaPAllx5
import Derived.Lib.BitFns
namespace Go.Proofs.Ytaiieopllffljaa.Kit
open Go.RowKit Go.Proofs.Ytaiieopllffljaa.PAll Go.Proofs.Ytaiieopllffljaa.G Go.Proofs.YtaiieopllffljaaW.PrintWords Go.Proofs.YtaiieopllffljaaW.PrintLast Go.Proofs.YtaiieopllffljaaW.PrintMore
set_option linter.unusedVariables false
set_option linter.unusedSimpArgs false

theorem w_id {n : Int} (h0 : -9223372036854775808 ≤ n) (h1 : n < 9223372036854775808) : wrap64 n = n := by unfold wrap64; omega

/-! ### powers -/
theorem pow_lt62 {m : Nat} (h : m ≤ 62) : (2 : Int) ^ m ≤ 4611686018427387904 := by
  have h1 : (2 : Nat) ^ m ≤ 2 ^ 62 := Nat.pow_le_pow_right (by decide) h
  have h2 : (2 : Nat) ^ 62 = 4611686018427387904 := by decide
  rw [h2] at h1
  have h3 : ((2 ^ m : Nat) : Int) = 2 ^ m := by simp
  rw [← h3]
  omega
theorem pow_pos' (m : Nat) : (1 : Int) ≤ 2 ^ m := by
  have : 0 < (2 : Nat) ^ m := Nat.two_pow_pos m
  exact_mod_cast this
theorem power_l0 (m : Nat) (hm : m ≤ 62) (d : Nat) : ∀ (k i : Nat), i + d = m → d < k → casketref9_Power.l0 k m (2 ^ i) i = some (2 ^ m) := by
  induction d with
  | zero =>
    intro k i hi hk
    obtain ⟨k, rfl⟩ : ∃ q, k = q + 1 := ⟨k - 1, by omega⟩
    obtain rfl : i = m := by omega
    simp only [casketref9_Power.l0]
    rw [if_neg (by omega)]
  | succ d ih =>
    intro k i hi hk
    obtain ⟨k, rfl⟩ : ∃ q, k = q + 1 := ⟨k - 1, by omega⟩
    simp only [casketref9_Power.l0]
    rw [if_pos (by omega)]
    have h1 := pow_lt62 (m := i + 1) (by omega)
    have h2 : (2 : Int) ^ (i + 1) = 2 * 2 ^ i := by rw [Int.pow_succ]; omega
    have h3 := pow_pos' i
    rw [w_id (n := 2 * 2 ^ i) (by omega) (by omega), w_id (n := (i : Int) + 1) (by omega) (by omega), ← h2]
    exact ih k (i + 1) (by omega) (by omega)
theorem power (m : Nat) (hm : m ≤ 62) (k : Nat) (hk : m < k) : casketref9_Power.f k m = some (2 ^ m) := by
  unfold casketref9_Power.f
  exact power_l0 m hm m k 0 (by omega) hk
theorem exponent_l0 (n e : Nat) (h1 : 2 ^ e ≤ n) (h2 : n < 2 ^ (e + 1)) (he : e ≤ 60) (d : Nat) : ∀ (k i : Nat), i + d = e → d + 70 < k → casketref9_Exponent.l0 k n i = some (e : Int) := by
  induction d with
  | zero =>
    intro k i hi hk
    obtain ⟨k, rfl⟩ : ∃ q, k = q + 1 := ⟨k - 1, by omega⟩
    obtain rfl : i = e := by omega
    simp only [casketref9_Exponent.l0]
    rw [w_id (n := (i : Int) + 1) (by omega) (by omega)]
    rw [show ((i : Int) + 1) = ((i + 1 : Nat) : Int) by omega, power (i + 1) (by omega) k (by omega)]
    simp only [Option.bind_some]
    have : (n : Int) < 2 ^ (i + 1) := by exact_mod_cast h2
    rw [if_neg (by omega)]
  | succ d ih =>
    intro k i hi hk
    obtain ⟨k, rfl⟩ : ∃ q, k = q + 1 := ⟨k - 1, by omega⟩
    simp only [casketref9_Exponent.l0]
    rw [w_id (n := (i : Int) + 1) (by omega) (by omega)]
    rw [show ((i : Int) + 1) = ((i + 1 : Nat) : Int) by omega, power (i + 1) (by omega) k (by omega)]
    simp only [Option.bind_some]
    have h3 : 2 ^ (i + 1) ≤ n := Nat.le_trans (Nat.pow_le_pow_right (by decide) (by omega)) h1
    have : (2 : Int) ^ (i + 1) ≤ n := by exact_mod_cast h3
    rw [if_pos (by omega)]
    exact ih k (i + 1) (by omega) (by omega)
theorem exponent (n e : Nat) (h1 : 2 ^ e ≤ n) (h2 : n < 2 ^ (e + 1)) (he : e ≤ 60) (k : Nat) (hk : 200 ≤ k) : casketref9_Exponent.f k n = some (e : Int) := by
  unfold casketref9_Exponent.f
  exact exponent_l0 n e h1 h2 he e k 0 (by omega) (by omega)
theorem digits_l0 (e s : Nat) (h1 : ∀ j, j < s → 2 ^ j ≤ e) (h2 : e < 2 ^ s) (hs : s ≤ 60) (d : Nat) : ∀ (k i : Nat), i + d = s → d + 70 < k → casketref9_Digits.l0 k e i = some (s : Int) := by
  induction d with
  | zero =>
    intro k i hi hk
    obtain ⟨k, rfl⟩ : ∃ q, k = q + 1 := ⟨k - 1, by omega⟩
    obtain rfl : i = s := by omega
    simp only [casketref9_Digits.l0]
    rw [power i (by omega) k (by omega)]
    simp only [Option.bind_some]
    have : (e : Int) < 2 ^ i := by exact_mod_cast h2
    rw [if_neg (by omega)]
  | succ d ih =>
    intro k i hi hk
    obtain ⟨k, rfl⟩ : ∃ q, k = q + 1 := ⟨k - 1, by omega⟩
    simp only [casketref9_Digits.l0]
    rw [power i (by omega) k (by omega)]
    simp only [Option.bind_some]
    have h3 := h1 i (by omega)
    have : (2 : Int) ^ i ≤ e := by exact_mod_cast h3
    rw [if_pos (by omega), w_id (n := (i : Int) + 1) (by omega) (by omega)]
    exact ih k (i + 1) (by omega) (by omega)
/-- How many digits an exponent has. -/
def dg (e : Nat) : Nat := if e = 0 then 0 else if e < 2 then 1 else if e < 4 then 2 else if e < 8 then 3 else if e < 16 then 4 else 5
theorem digits (e : Nat) (he : e ≤ 20) (k : Nat) (hk : 200 ≤ k) : casketref9_Digits.f k e = some (dg e : Int) := by
  unfold casketref9_Digits.f
  have hd : dg e ≤ 5 := by unfold dg; (repeat' split) <;> omega
  refine digits_l0 e (dg e) ?_ ?_ (by omega) (dg e) k 0 (by omega) (by omega)
  · intro j hj
    have : j = 0 ∨ j = 1 ∨ j = 2 ∨ j = 3 ∨ j = 4 := by omega
    unfold dg at hj
    repeat' split at hj
    all_goals (rcases this with rfl | rfl | rfl | rfl | rfl <;> simp <;> omega)
  · unfold dg
    repeat' split
    all_goals (simp; try omega)
theorem bitLen_dg (e : Nat) (he : e ≤ 20) : Lib.bitLen e = dg e := by
  have : ∀ e : Fin 21, Lib.bitLen e.val = dg e.val := by decide +kernel
  exact this ⟨e, by omega⟩
theorem bitLen_exp (n e : Nat) (h1 : 2 ^ e ≤ n) (h2 : n < 2 ^ (e + 1)) (he : e ≤ 60) : Lib.bitLen n = e + 1 := by
  have h64 : n < 2 ^ 64 := Nat.lt_of_lt_of_le h2 (Nat.pow_le_pow_right (by decide) (by omega))
  rw [Lib.bitLen_shift e n h1 h64]
  have : n / 2 ^ e = 1 := by
    apply Nat.div_eq_of_lt_le
    · omega
    · rw [Nat.pow_succ] at h2; omega
  rw [this]
  rfl
theorem exp_of (n : Nat) (h : 1 ≤ n) (h2 : n ≤ 1048576) : ∃ e, e ≤ 20 ∧ 2 ^ e ≤ n ∧ n < 2 ^ (e + 1) := by
  refine ⟨Nat.log2 n, ?_, Nat.log2_self_le (by omega), Nat.lt_log2_self⟩
  have : Nat.log2 n < 21 := (Nat.log2_lt (by omega)).2 (by omega)
  omega

/-! ### the bucket -/
theorem and_high (x t : Nat) (hx : x < 2 ^ 64) (ht : t ≤ 64) : x &&& (2 ^ 64 - 2 ^ t) = x / 2 ^ t * 2 ^ t := by
  apply Nat.eq_of_testBit_eq
  intro i
  have hp : 0 < 2 ^ t := Nat.two_pow_pos t
  have e1 : 2 ^ 64 - 2 ^ t = 2 ^ 64 - ((2 ^ t - 1) + 1) := by omega
  have hlt : 2 ^ t - 1 < 2 ^ 64 := by
    have : 2 ^ t ≤ 2 ^ 64 := Nat.pow_le_pow_right (by decide) ht
    omega
  rw [Nat.testBit_and, e1, Nat.testBit_two_pow_sub_succ hlt, Nat.testBit_two_pow_sub_one, Nat.mul_comm, Nat.testBit_two_pow_mul, Nat.testBit_div_two_pow]
  by_cases h : t ≤ i
  · have : i - t + t = i := by omega
    rw [this]
    by_cases h64 : i < 64
    · simp [h, h64, Nat.not_lt.2 h]
    · have : x.testBit i = false := Nat.testBit_lt_two_pow (Nat.lt_of_lt_of_le hx (Nat.pow_le_pow_right (by decide) (by omega)))
      simp [this]
  · simp [h, Nat.lt_of_not_le h]
theorem ofInt64 (x : Nat) (h : x < 2 ^ 64) : (BitVec.ofInt 64 (x : Int)).toNat = x := by
  rw [BitVec.toNat_ofInt]
  omega
theorem andNot64 (x t : Nat) (hx : x < 2 ^ 62) (ht : t ≤ 62) : bits .andNot .i64 (x : Int) ((2 ^ t - 1 : Nat) : Int) = ((x / 2 ^ t * 2 ^ t : Nat) : Int) := by
  show IntKind.i64.wrap ((BitVec.ofInt 64 (x : Int) &&& ~~~BitVec.ofInt 64 ((2 ^ t - 1 : Nat) : Int)).toNat : Int) = _
  have hp : 0 < 2 ^ t := Nat.two_pow_pos t
  have h62 : 2 ^ t ≤ 2 ^ 62 := Nat.pow_le_pow_right (by decide) ht
  rw [BitVec.toNat_and, BitVec.toNat_not, ofInt64 x (by omega), ofInt64 _ (by omega), show 2 ^ 64 - 1 - (2 ^ t - 1) = 2 ^ 64 - 2 ^ t by omega, and_high x t (by omega) (by omega)]
  have : x / 2 ^ t * 2 ^ t ≤ x := Nat.div_mul_le_self _ _
  exact IntWalk.i64_in _ (by omega)
/-- How many of a length's last digits are zeros in its bucket. -/
def tz (e : Nat) : Nat := e - dg e
/-- The bucket of a length with that exponent. -/
def bkE (e n : Nat) : Nat := (n + (2 ^ tz e - 1)) / 2 ^ tz e * 2 ^ tz e
theorem dg_le (e : Nat) (h1 : 1 ≤ e) : dg e ≤ e := by unfold dg; (repeat' split) <;> omega
theorem u64_id (n : Int) (h0 : 0 ≤ n) (h1 : n ≤ 9223372036854775807) : IntKind.u64.wrap n = n := by
  show n % 18446744073709551616 = n
  omega
theorem bucket_f (n e : Nat) (hn : 2 ≤ n) (he : e ≤ 20) (h1 : 2 ^ e ≤ n) (h2 : n < 2 ^ (e + 1)) : frame_bucket.f n = some ((bkE e n : Nat) : Int) := by
  have he1 : 1 ≤ e := by
    by_cases h : e = 0
    · subst h; omega
    · omega
  have hd := dg_le e he1
  have hn20 : n < 2 ^ 21 := Nat.lt_of_lt_of_le h2 (Nat.pow_le_pow_right (by decide) (by omega))
  unfold frame_bucket.f
  rw [if_neg (by omega), u64_id _ (by omega) (by omega)]
  unfold bits_Len.f
  rw [if_pos (by omega)]
  simp only [Option.bind_some]
  rw [Int.toNat_natCast, bitLen_exp n e h1 h2 (by omega), w_id (n := ((e + 1 : Nat) : Int) - 1) (by omega) (by omega), show ((e + 1 : Nat) : Int) - 1 = (e : Int) by omega, u64_id _ (by omega) (by omega), if_pos (by omega)]
  simp only [Option.bind_some]
  rw [Int.toNat_natCast, bitLen_dg e he, w_id (n := (e : Int) - (dg e : Int)) (by omega) (by omega), if_pos (by omega)]
  have ht : (e : Int) - (dg e : Int) = ((tz e : Nat) : Int) := by unfold tz; omega
  have ht20 : tz e ≤ 20 := by unfold tz; omega
  rw [ht]
  have hs : shl .i64 1 ((tz e : Nat) : Int) = ((2 ^ tz e : Nat) : Int) := by
    unfold shl
    rw [Int.toNat_natCast, Nat.min_eq_left (by show tz e ≤ 64; omega)]
    have h20 : 2 ^ tz e ≤ 2 ^ 20 := Nat.pow_le_pow_right (by decide) ht20
    have : (1 : Int) * 2 ^ tz e = ((2 ^ tz e : Nat) : Int) := by simp
    rw [this]
    generalize 2 ^ tz e = q at h20
    exact IntWalk.i64_in _ (by omega)
  rw [hs]
  have hp : 0 < 2 ^ tz e := Nat.two_pow_pos _
  have h20 : 2 ^ tz e ≤ 2 ^ 20 := Nat.pow_le_pow_right (by decide) ht20
  rw [w_id (n := ((2 ^ tz e : Nat) : Int) - 1) (by omega) (by omega), show ((2 ^ tz e : Nat) : Int) - 1 = ((2 ^ tz e - 1 : Nat) : Int) by omega, w_id (n := (n : Int) + ((2 ^ tz e - 1 : Nat) : Int)) (by omega) (by omega), show (n : Int) + ((2 ^ tz e - 1 : Nat) : Int) = ((n + (2 ^ tz e - 1) : Nat) : Int) by omega, andNot64 _ _ (by omega) (by omega)]
  rfl
/-- The loop that raises b by steps. -/
theorem step_loop (n st : Nat) (hs : 0 < st) (hst : st ≤ 1048576) (hn : n ≤ 1048576) (d : Nat) : ∀ (k b : Nat), b ≤ 2097152 → n ≤ b + d → d < k → casketref9_bucket.l0 k n st b = some ((if b < n then b + (n - b + (st - 1)) / st * st else b : Nat) : Int) := by
  induction d with
  | zero =>
    intro k b hb hd hk
    obtain ⟨k, rfl⟩ : ∃ q, k = q + 1 := ⟨k - 1, by omega⟩
    simp only [casketref9_bucket.l0]
    rw [if_neg (by omega), if_neg (by omega)]
  | succ d ih =>
    intro k b hb hd hk
    obtain ⟨k, rfl⟩ : ∃ q, k = q + 1 := ⟨k - 1, by omega⟩
    simp only [casketref9_bucket.l0]
    by_cases h : b < n
    · rw [if_pos (by omega), w_id (n := (b : Int) + (st : Int)) (by omega) (by omega), show (b : Int) + (st : Int) = ((b + st : Nat) : Int) by omega, ih k (b + st) (by omega) (by omega) (by omega), if_pos h]
      congr 2
      by_cases h' : b + st < n
      · rw [if_pos h']
        have : (n - b + (st - 1)) / st = (n - (b + st) + (st - 1)) / st + 1 := by
          rw [← Nat.add_div_right _ hs]
          congr 1
          omega
        rw [this, Nat.add_mul]
        omega
      · rw [if_neg h']
        have : (n - b + (st - 1)) / st = 1 := by
          apply Nat.div_eq_of_lt_le <;> omega
        rw [this]
        omega
    · rw [if_neg (by omega), if_neg h]
theorem ref_bucket_f (n e : Nat) (hn : 2 ≤ n) (hm : n ≤ 1048576) (he : e ≤ 20) (h1 : 2 ^ e ≤ n) (h2 : n < 2 ^ (e + 1)) (k : Nat) (hk : 2000000 ≤ k) : casketref9_bucket.f k n = some ((bkE e n : Nat) : Int) := by
  have he1 : 1 ≤ e := by
    by_cases h : e = 0
    · subst h; omega
    · omega
  have hd := dg_le e he1
  unfold casketref9_bucket.f
  rw [if_neg (by omega), exponent n e h1 h2 (by omega) k (by omega)]
  simp only [Option.bind_some]
  rw [digits e he k (by omega)]
  simp only [Option.bind_some]
  have ht : (e : Int) - (dg e : Int) = ((tz e : Nat) : Int) := by unfold tz; omega
  have ht20 : tz e ≤ 20 := by unfold tz; omega
  rw [w_id (n := (e : Int) - (dg e : Int)) (by omega) (by omega), ht, power (tz e) (by omega) k (by omega)]
  simp only [Option.bind_some]
  rw [power e (by omega) k (by omega)]
  simp only [Option.bind_some]
  have hp : 0 < 2 ^ tz e := Nat.two_pow_pos _
  have h20 : 2 ^ tz e ≤ 2 ^ 20 := Nat.pow_le_pow_right (by decide) ht20
  have c1 : ((2 : Int) ^ tz e) = ((2 ^ tz e : Nat) : Int) := by simp
  have c2 : ((2 : Int) ^ e) = ((2 ^ e : Nat) : Int) := by simp
  rw [c1, c2, step_loop n (2 ^ tz e) hp (by omega) hm n k (2 ^ e) (by omega) (by omega) (by omega)]
  congr 2
  unfold bkE
  have hmul : 2 ^ e = 2 ^ dg e * 2 ^ tz e := by
    rw [← Nat.pow_add]
    congr 1
    unfold tz
    omega
  have hdiv : (n + (2 ^ tz e - 1)) / 2 ^ tz e = 2 ^ dg e + (n - 2 ^ e + (2 ^ tz e - 1)) / 2 ^ tz e := by
    have : n + (2 ^ tz e - 1) = (n - 2 ^ e + (2 ^ tz e - 1)) + 2 ^ dg e * 2 ^ tz e := by omega
    rw [this, Nat.add_mul_div_right _ _ hp]
    omega
  rw [hdiv, Nat.add_mul, ← hmul]
  split
  · rfl
  · have : (n - 2 ^ e + (2 ^ tz e - 1)) / 2 ^ tz e = 0 := Nat.div_eq_of_lt (by omega)
    rw [this]
    omega
/-- What the bucket is, of whatever length. -/
def bk (n : Nat) : Nat := if n < 2 then n else bkE (Nat.log2 n) n
theorem bucket (n : Nat) (hn : n ≤ 1048576) : frame_bucket.f n = some ((bk n : Nat) : Int) := by
  unfold bk
  by_cases h : n < 2
  · rw [if_pos h]
    unfold frame_bucket.f
    rw [if_pos (by omega)]
  · rw [if_neg h]
    obtain ⟨e, he, h1, h2⟩ := exp_of n (by omega) hn
    have : Nat.log2 n = e := by
      apply Nat.le_antisymm
      · have := (Nat.log2_lt (n := n) (k := e + 1) (by omega)).2 h2
        omega
      · exact (Nat.le_log2 (by omega)).2 h1
    rw [this]
    exact bucket_f n e (by omega) he h1 h2
theorem ref_bucket (n : Nat) (hn : n ≤ 1048576) (k : Nat) (hk : 2000000 ≤ k) : casketref9_bucket.f k n = some ((bk n : Nat) : Int) := by
  unfold bk
  by_cases h : n < 2
  · rw [if_pos h]
    unfold casketref9_bucket.f
    rw [if_pos (by omega)]
  · rw [if_neg h]
    obtain ⟨e, he, h1, h2⟩ := exp_of n (by omega) hn
    have : Nat.log2 n = e := by
      apply Nat.le_antisymm
      · have := (Nat.log2_lt (n := n) (k := e + 1) (by omega)).2 h2
        omega
      · exact (Nat.le_log2 (by omega)).2 h1
    rw [this]
    exact ref_bucket_f n e (by omega) hn he h1 h2 k hk
end Go.Proofs.Ytaiieopllffljaa.Kit
