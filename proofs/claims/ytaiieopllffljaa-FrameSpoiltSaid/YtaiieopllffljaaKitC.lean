/- Plain laws of the bucket: it is little more than the length, its own bucket, and rises with the length. -/
import Derived.Test.YtaiieopllffljaaKitB
namespace Go.Proofs.Ytaiieopllffljaa.Kit
open Go.RowKit Go.Proofs.Ytaiieopllffljaa.PAll Go.Proofs.Ytaiieopllffljaa.G Go.Proofs.YtaiieopllffljaaW.PrintWords Go.Proofs.YtaiieopllffljaaW.PrintLast Go.Proofs.YtaiieopllffljaaW.PrintMore
set_option linter.unusedVariables false
set_option linter.unusedSimpArgs false

theorem bkE_ge (e n : Nat) : n ≤ bkE e n ∧ bkE e n ≤ n + (2 ^ tz e - 1) := by
  unfold bkE
  have hp : 0 < 2 ^ tz e := Nat.two_pow_pos _
  generalize 2 ^ tz e = q at hp
  have h1 := Nat.div_add_mod (n + (q - 1)) q
  have h2 := Nat.mod_lt (n + (q - 1)) hp
  rw [Nat.mul_comm] at h1
  omega
theorem pow_split (e : Nat) (he : 1 ≤ e) : 2 ^ e = 2 ^ dg e * 2 ^ tz e := by
  have := dg_le e he
  rw [← Nat.pow_add]
  congr 1
  unfold tz
  omega
theorem bkE_le_pow (e n : Nat) (he : 1 ≤ e) (h : n ≤ 2 ^ (e + 1)) : bkE e n ≤ 2 ^ (e + 1) := by
  have hs := pow_split e he
  unfold bkE
  have hp : 0 < 2 ^ tz e := Nat.two_pow_pos _
  have h2 : 2 ^ (e + 1) = 2 * 2 ^ dg e * 2 ^ tz e := by rw [Nat.pow_succ, hs, Nat.mul_comm _ 2, Nat.mul_assoc]
  rw [h2] at h ⊢
  generalize 2 * 2 ^ dg e = m at h
  generalize 2 ^ tz e = q at hp h
  have : (n + (q - 1)) / q < m + 1 := by
    apply Nat.div_lt_of_lt_mul
    rw [Nat.mul_comm, Nat.add_mul]
    omega
  exact Nat.mul_le_mul_right q (by omega)
theorem dg_gt (e : Nat) (he : e ≤ 20) : e < 2 ^ dg e := by
  have : ∀ e : Fin 21, e.val < 2 ^ dg e.val := by decide +kernel
  exact this ⟨e, by omega⟩
theorem dg_twice (e : Nat) (h1 : 1 ≤ e) (he : e ≤ 20) : 2 ^ dg e ≤ 2 * e := by
  have : ∀ e : Fin 21, 1 ≤ e.val → 2 ^ dg e.val ≤ 2 * e.val := by decide +kernel
  exact this ⟨e, by omega⟩ h1
theorem bkE_mod (e n : Nat) : bkE e n % 2 ^ tz e = 0 := Nat.mul_mod_left _ _
theorem bkE_little (e n : Nat) (h1 : 1 ≤ e) (he : e ≤ 20) (hn : 2 ^ e ≤ n) : (bkE e n - n) * (e + 1) < n := by
  have hg := (bkE_ge e n).2
  have hs := pow_split e h1
  have hd := dg_gt e he
  have hp : 0 < 2 ^ tz e := Nat.two_pow_pos _
  have a1 : (bkE e n - n) * (e + 1) ≤ (2 ^ tz e - 1) * (e + 1) := Nat.mul_le_mul_right _ (by omega)
  have a2 : (2 ^ tz e - 1) * (e + 1) + (e + 1) = 2 ^ tz e * (e + 1) := by
    rw [← Nat.succ_mul]
    congr 1
    omega
  have a3 : 2 ^ tz e * (e + 1) ≤ 2 ^ tz e * 2 ^ dg e := Nat.mul_le_mul_left _ (by omega)
  rw [Nat.mul_comm (2 ^ tz e) (2 ^ dg e), ← hs] at a3
  omega
theorem bkE_self (e b : Nat) (h : b % 2 ^ tz e = 0) : bkE e b = b := by
  unfold bkE
  have hp : 0 < 2 ^ tz e := Nat.two_pow_pos _
  generalize 2 ^ tz e = q at hp h
  have h1 := Nat.div_add_mod b q
  have : (b + (q - 1)) / q = b / q := by
    have e1 : b + (q - 1) = (q - 1) + b / q * q := by rw [Nat.mul_comm]; omega
    rw [e1, Nat.add_mul_div_right _ _ hp, Nat.div_eq_of_lt (by omega)]
    omega
  rw [this, Nat.mul_comm]
  omega
theorem log2_eq (n e : Nat) (h1 : 2 ^ e ≤ n) (h2 : n < 2 ^ (e + 1)) : Nat.log2 n = e := by
  have hn : 1 ≤ n := Nat.le_trans (Nat.two_pow_pos e) h1
  apply Nat.le_antisymm
  · have := (Nat.log2_lt (n := n) (k := e + 1) (by omega)).2 h2
    omega
  · exact (Nat.le_log2 (by omega)).2 h1
theorem bk_eq (n e : Nat) (hn : 2 ≤ n) (h1 : 2 ^ e ≤ n) (h2 : n < 2 ^ (e + 1)) : bk n = bkE e n := by
  unfold bk
  rw [if_neg (by omega), log2_eq n e h1 h2]
theorem exp1 (n : Nat) (hn : 2 ≤ n) (hm : n ≤ 1048576) : ∃ e, 1 ≤ e ∧ e ≤ 20 ∧ 2 ^ e ≤ n ∧ n < 2 ^ (e + 1) := by
  obtain ⟨e, he, h1, h2⟩ := exp_of n (by omega) hm
  refine ⟨e, ?_, he, h1, h2⟩
  by_cases h : e = 0
  · subst h; omega
  · omega
theorem bk_ge (n : Nat) : n ≤ bk n := by
  unfold bk
  split
  · omega
  · exact (bkE_ge _ n).1
theorem bk_le (n : Nat) (hm : n ≤ 1048576) : bk n ≤ 1048576 := by
  by_cases h : n < 2
  · unfold bk; rw [if_pos h]; exact hm
  obtain ⟨e, e1, e2, h1, h2⟩ := exp1 n (by omega) hm
  rw [bk_eq n e (by omega) h1 h2]
  by_cases h20 : e = 20
  · subst h20
    have : n = 1048576 := by omega
    subst this
    decide
  · have := bkE_le_pow e n e1 (by omega)
    have h3 : 2 ^ (e + 1) ≤ 2 ^ 20 := Nat.pow_le_pow_right (by decide) (by omega)
    omega
theorem tz_dvd (e : Nat) (h1 : 1 ≤ e) : 2 ^ e % 2 ^ tz e = 0 := by
  rw [pow_split e h1]
  exact Nat.mul_mod_left _ _
theorem bk_bk (n : Nat) (hm : n ≤ 1048576) : bk (bk n) = bk n := by
  by_cases h : n < 2
  · have : bk n = n := by unfold bk; rw [if_pos h]
    rw [this, this]
  obtain ⟨e, e1, e2, h1, h2⟩ := exp1 n (by omega) hm
  have hb := bk_eq n e (by omega) h1 h2
  have hle := bkE_le_pow e n e1 (by omega)
  have hge := (bkE_ge e n).1
  rw [hb]
  by_cases hlt : bkE e n < 2 ^ (e + 1)
  · rw [bk_eq (bkE e n) e (by omega) (by omega) hlt]
    exact bkE_self e _ (bkE_mod e n)
  · have heq : bkE e n = 2 ^ (e + 1) := by omega
    rw [heq, bk_eq (2 ^ (e + 1)) (e + 1) (by omega) (by omega) (by rw [Nat.pow_succ 2 (e + 1)]; omega)]
    exact bkE_self _ _ (tz_dvd (e + 1) (by omega))
theorem bkE_mono (e n m : Nat) (h : n ≤ m) : bkE e n ≤ bkE e m := Nat.mul_le_mul_right _ (Nat.div_le_div_right (by omega))
theorem bk_mono (n m : Nat) (h : n ≤ m) (hm : m ≤ 1048576) : bk n ≤ bk m := by
  by_cases hn : n < 2
  · have : bk n = n := by unfold bk; rw [if_pos hn]
    have := bk_ge m
    omega
  obtain ⟨e, e1, e2, h1, h2⟩ := exp1 n (by omega) (by omega)
  obtain ⟨f, f1, f2, g1, g2⟩ := exp1 m (by omega) hm
  rw [bk_eq n e (by omega) h1 h2, bk_eq m f (by omega) g1 g2]
  by_cases hef : e = f
  · subst hef; exact bkE_mono e n m h
  · have hlt : e < f := by
      by_cases hc : f < e
      · have : 2 ^ (f + 1) ≤ 2 ^ e := Nat.pow_le_pow_right (by decide) (by omega)
        omega
      · omega
    have a := bkE_le_pow e n e1 (by omega)
    have b := (bkE_ge f m).1
    have c : 2 ^ (e + 1) ≤ 2 ^ f := Nat.pow_le_pow_right (by decide) (by omega)
    omega
theorem e_list : (⟨#[]⟩ : ByteArray).toList = [] := by decide +kernel
/-! ### Size and Padme -/
theorem padme (n : Nat) (hn : n ≤ 1048576) : frame_Padme.f n = some ((bk n : Int), 0) := by
  unfold frame_Padme.f
  rw [if_neg (by omega), if_neg (by omega), bucket n hn]
  rfl
theorem size_ok (n l : Nat) (hn : n ≤ 1048571) (hl : l ≤ 1048576) (k : Nat) : frame_Size.f (k + 1) n l = some ((bk (max (n + 5) l) : Int), 0) := by
  unfold frame_Size.f
  rw [if_neg (by omega), decide_eq_false (by omega)]
  simp only [frame_Size.j0]
  have e : mx (wrap64 ((n : Int) + 5)) (l : Int) = ((max (n + 5) l : Nat) : Int) := by
    rw [w_id (by omega) (by omega)]
    unfold mx
    split <;> omega
  rw [if_neg (by decide), if_neg (by omega), if_neg (by omega), e, bucket _ (by omega)]
  rfl

/-- A text that Unpack takes is the frame of what it answers. -/
theorem only_frame (a : Int) (s : ByteArray) (h1 : 1 ≤ a) (h2 : a ≤ 255) (h3 : 5 ≤ (s.size : Int)) (h4 : bt s 0 = a) (h5 : headN s ≤ (s.size : Int) - 5) (h6 : allz s (5 + (headN s).toNat) = true) (h7 : (s.size : Int) ≤ 1048576) :
    frm a (s.extract 5 (5 + (headN s).toNat)) ((s.size : Int) - ((headN s).toNat : Int) - 5).toNat = s := by
  have b1 := bt_range s 1
  have b2 := bt_range s 2
  have b3 := bt_range s 3
  have b4 := bt_range s 4
  have hn : headN s = 16777216 * bt s 1 + 65536 * bt s 2 + 256 * bt s 3 + bt s 4 := rfl
  have hsz : (s.extract 5 (5 + (headN s).toNat)).size = (headN s).toNat := by
    rw [ByteArray.size_extract]
    omega
  have hl : s.data.toList.length = s.size := by simp
  apply ByteArray.ext
  apply Array.ext'
  apply List.ext_getElem
  · have := frm_size a (s.extract 5 (5 + (headN s).toNat)) ((s.size : Int) - ((headN s).toNat : Int) - 5).toNat
    rw [hsz] at this
    simp only [Array.length_toList]
    show (frm a (s.extract 5 (5 + (headN s).toNat)) ((s.size : Int) - ((headN s).toNat : Int) - 5).toNat).size = s.size
    omega
  · intro i hi1 hi2
    have e := nth s i (by omega)
    have e' : (((frm a (s.extract 5 (5 + (headN s).toNat)) ((s.size : Int) - ((headN s).toNat : Int) - 5).toNat).data.toList[i]'hi1).toNat : Int) = bt s i := by
      have hcast : ((s.size : Int) - ((headN s).toNat : Int) - 5).toNat = s.size - (headN s).toNat - 5 := by omega
      by_cases c5 : i < 5
      · have : i = 0 ∨ i = 1 ∨ i = 2 ∨ i = 3 ∨ i = 4 := by omega
        simp only [frm_list]
        rw [List.getElem_append_left (by simp [hdL]; omega)]
        rcases this with rfl | rfl | rfl | rfl | rfl
        · simp only [hdL, List.map_cons, List.getElem_cons_zero]
          rw [u8_of _ (by omega) (by omega)]
          exact h4.symm
        all_goals
          simp only [hdL, List.map_cons, List.getElem_cons_succ, List.getElem_cons_zero]
          rw [hsz, u8_of _ (by omega) (by omega)]
        · show _ = bt s 1
          omega
        · show _ = bt s 2
          omega
        · show _ = bt s 3
          omega
        · show _ = bt s 4
          omega
      · by_cases cn : i < 5 + (headN s).toNat
        · simp only [frm_list]
          rw [List.getElem_append_right (by simp [hdL]; omega), List.getElem_append_left (by simp [hdL]; omega)]
          simp only [ByteArray.data_extract, Array.toList_extract, List.extract_eq_take_drop, List.getElem_take, List.getElem_drop]
          rw [← e]
          have hx : 5 + (i - (List.map (fun n => UInt8.ofNat n.toNat) (hdL a ↑(s.extract 5 (5 + (headN s).toNat)).size)).length) = i := by simp [hdL]; omega
          simp only [hx]
          rfl
        · simp only [frm_list]
          rw [List.getElem_append_right (by simp [hdL]; omega), List.getElem_append_right (by simp [hdL]; omega), List.getElem_replicate]
          exact ((allz_iff s _).1 h6 i (by omega) (by omega)).symm
    have : ((frm a (s.extract 5 (5 + (headN s).toNat)) ((s.size : Int) - ((headN s).toNat : Int) - 5).toNat).data.toList[i]'hi1).toNat = (s.data.toList[i]'hi2).toNat := by
      have e2 : ((s.data.toList[i]'hi2).toNat : Int) = bt s i := e
      omega
    exact UInt8.toNat_inj.1 this
end Go.Proofs.Ytaiieopllffljaa.Kit
