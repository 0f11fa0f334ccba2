/- casketlaw9.FrameSpoilt returns true for every input: a frame in which one byte was turned never says the same body. -/
import Derived.Test.YtaiieopllffljaaSpoilt
namespace Go.Proofs.Ytaiieopllffljaa.Spoilt
open Go.RowKit Go.Proofs.Ytaiieopllffljaa.PAll Go.Proofs.Ytaiieopllffljaa.G Go.Proofs.Ytaiieopllffljaa.Kit Go.Proofs.YtaiieopllffljaaW.PrintWords Go.Proofs.YtaiieopllffljaaW.PrintLast Go.Proofs.YtaiieopllffljaaW.PrintMore
set_option linter.unusedVariables false

theorem turned_size (s : ByteArray) (i : Nat) (v : Int) : (turned s i v).size = s.size := by
  unfold turned
  rw [strOfNums_size, List.length_set, bytesOf_length]
theorem turned_at (s : ByteArray) (i : Nat) (v : Int) (hi : i < s.size) (h0 : 0 ≤ v) (h1 : v ≤ 255) : bt (turned s i v) i = v := by
  rw [bt_list, Int.toNat_natCast]
  unfold turned
  rw [strOfNums_data, List.getD_eq_getElem?_getD, List.getElem?_map, List.getElem?_set_self (by rw [bytesOf_length]; exact hi)]
  exact u8_of v h0 h1
theorem xor_ne (x v : Int) (h0 : 0 ≤ x ∧ x ≤ 255) (h1 : 1 ≤ v ∧ v ≤ 255) : bits .xor .u8 x v ≠ x ∧ 0 ≤ bits .xor .u8 x v ∧ bits .xor .u8 x v ≤ 255 := by
  rw [u8_xor x v (by omega) (by omega) (by omega) (by omega)]
  have hlt : x.toNat ^^^ v.toNat < 2 ^ 8 := Nat.xor_lt_two_pow (by omega) (by omega)
  refine ⟨fun h => ?_, by omega, by omega⟩
  have e : x.toNat ^^^ v.toNat = x.toNat := by omega
  have : x.toNat ^^^ (x.toNat ^^^ v.toNat) = v.toNat := by rw [← Nat.xor_assoc, Nat.xor_self, Nat.zero_xor]
  rw [e, Nat.xor_self] at this
  omega
/-- What Unpack answers of it. -/
theorem spoilt (body : ByteArray) (m i : Nat) (x : Int) (c : ByteArray) (hz : 5 + body.size + m ≤ 1048576) (hi : i < 5 + body.size + m) (hx : x ≠ bt (frm 1 body m) i) (h0 : 0 ≤ x) (h1 : x ≤ 255)
    (hu : frame_Unpack.f 1 (turned (frm 1 body m) i x) = some (c, 0)) : c ≠ body := by
  intro hc
  subst hc
  have hs := frm_size 1 c m
  have ht := turned_size (frm 1 c m) i x
  have hat := turned_at (frm 1 c m) i x (by omega) h0 h1
  generalize hS : turned (frm 1 c m) i x = S at hu ht hat
  have b1 := bt_range S 1
  have b2 := bt_range S 2
  have b3 := bt_range S 3
  have b4 := bt_range S 4
  have hn : 0 ≤ headN S := by unfold headN; omega
  unfold frame_Unpack.f at hu
  rw [if_neg (by omega)] at hu
  by_cases c2 : (1 : Int) < 1 ∨ (1 : Int) > 255 ∨ (S.size : Int) < 5 ∨ bt S 0 ≠ 1
  · rw [if_pos c2] at hu
    injection hu with hu
    injection hu with _ hu
    omega
  rw [if_neg c2] at hu
  by_cases c3 : headN S > (S.size : Int) - 5
  · rw [if_pos c3] at hu
    injection hu with hu
    injection hu with _ hu
    omega
  rw [if_neg c3] at hu
  by_cases c4 : allz S (5 + (headN S).toNat) = true
  · rw [if_pos c4] at hu
    injection hu with hu
    injection hu with hu _
    have hsz : (S.extract 5 (5 + (headN S).toNat)).size = (headN S).toNat := by
      rw [ByteArray.size_extract]
      omega
    have hsz2 := congrArg ByteArray.size hu
    rw [hsz] at hsz2
    have := only_frame 1 S (by omega) (by omega) (by omega) (by omega) (by omega) c4 (by omega)
    rw [hu, hsz2, show ((S.size : Int) - (c.size : Int) - 5).toNat = m by omega] at this
    rw [← this] at hat
    exact hx hat.symm
  · rw [if_neg c4] at hu
    injection hu with hu
    injection hu with _ hu
    omega
theorem walk (a0 : ByteArray) (a1 a2 a3 : Int) (w : World) (w0 : a0.size ≤ 140737488351232) (w1 : (Lit.int .i64 a1).wf = true) (w2 : (Lit.int .i64 a2).wf = true) (w3 : (Lit.int .i64 a3).wf = true) :
    Calls Try.prog 9 #[.string a0, .int .i64 a1, .int .i64 a2, .int .i64 a3] w fun e w' => e = .returned (.bool true) ∧ Below w.heap.size w w' := by
  by_cases h : (a0.size : Int) > 100000
  · exact walk_long a0 a1 a2 a3 w h
  obtain ⟨n, hn, n1, n2⟩ := clipped a1 ((a0.size : Int) + 5) 200000 (by omega) (by omega) (by omega) w1
  obtain ⟨i, hi, i1, i2⟩ := clipped a2 0 (n - 1) (by omega) (by omega) (by omega) w2
  obtain ⟨v, hv, v1, v2⟩ := clipped a3 1 255 (by omega) (by omega) (by omega) w3
  have hp := pack_f 1 a0 n (by omega) (by omega) (by omega) (by omega)
  have hs := frm_size 1 a0 (n - (a0.size : Int) - 5).toNat
  have b := bt_range (frm 1 a0 (n - (a0.size : Int) - 5).toNat) i
  obtain ⟨x1, x2, x3⟩ := xor_ne (bt (frm 1 a0 (n - (a0.size : Int) - 5).toNat) i) v b ⟨v1, v2⟩
  obtain ⟨p, hu⟩ : ∃ p, frame_Unpack.f 1 (turned (frm 1 a0 (n - (a0.size : Int) - 5).toNat) i.toNat (bits .xor .u8 (bt (frm 1 a0 (n - (a0.size : Int) - 5).toNat) i) v)) = some p := by
    unfold frame_Unpack.f
    (repeat' split) <;> exact ⟨_, rfl⟩
  refine walk_main a0 a1 a2 a3 n i v _ p.1 p.2 w (by omega) hn n1 n2 hp (by omega) hi i1 i2 hv v1 v2 hu ?_
  by_cases hf : p.2 = 0
  · refine .inr ⟨hf, ?_⟩
    have e : p = (p.1, 0) := by rw [← hf]
    rw [e] at hu
    exact spoilt a0 _ i.toNat _ p.1 (by omega) (by omega) (by rw [Int.toNat_of_nonneg i1]; exact x1) x2 x3 hu
  · exact .inl hf
end Go.Proofs.Ytaiieopllffljaa.Spoilt
