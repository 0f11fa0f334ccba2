/- Plain laws of frames: what Pack and Unpack answer of each other; the document's Unpack and Pack answer the same. -/
import Derived.Test.YtaiieopllffljaaKit
import Derived.Test.YtaiieopllffljaaPAllx4
namespace Go.Proofs.Ytaiieopllffljaa.Kit
open Go.RowKit Go.Proofs.Ytaiieopllffljaa.PAll Go.Proofs.Ytaiieopllffljaa.G Go.Proofs.YtaiieopllffljaaW.PrintWords Go.Proofs.YtaiieopllffljaaW.PrintLast Go.Proofs.YtaiieopllffljaaW.PrintMore
set_option linter.unusedVariables false
set_option linter.unusedSimpArgs false

theorem clipped (a lo hi : Int) (h : lo ≤ hi) (h0 : 0 ≤ lo) (h1 : hi ≤ 4611686018427387904) (ha : (Lit.int .i64 a).wf = true) : ∃ c, casketlaw9_clipped.f a lo hi = some c ∧ lo ≤ c ∧ c ≤ hi := by
  unfold casketlaw9_clipped.f
  have e1 : wrap64 (wrap64 (hi - lo) + 1) = hi - lo + 1 := by unfold wrap64; omega
  rw [e1, if_neg (by omega)]
  have hp : 0 < hi - lo + 1 := by omega
  have t1 := Int.tmod_lt_of_pos a hp
  have t2 : -(hi - lo + 1) < Int.tmod a (hi - lo + 1) := by
    have := Int.tmod_lt_of_pos (-a) hp
    rw [Int.neg_tmod] at this
    omega
  generalize Int.tmod a (hi - lo + 1) = m at t1 t2
  by_cases hm : m < 0
  · rw [if_pos hm]
    refine ⟨_, rfl, ?_⟩
    have : wrap64 (lo + wrap64 (wrap64 (wrap64 (m + hi) - lo) + 1)) = lo + (m + hi - lo + 1) := by unfold wrap64; omega
    rw [this]
    omega
  · rw [if_neg hm]
    refine ⟨_, rfl, ?_⟩
    have : wrap64 (lo + m) = lo + m := by unfold wrap64; omega
    rw [this]
    omega
/-! ### bytes -/
theorem bt_list (s : ByteArray) (i : Int) : bt s i = ((s.data.toList.getD i.toNat 0).toNat : Int) := by
  unfold bt
  split
  · rename_i h
    congr 2
    have : i.toNat < s.data.toList.length := by simpa using h
    rw [List.getD_eq_getElem?_getD, List.getElem?_eq_getElem this]
    rfl
  · rename_i h
    have : s.data.toList.length ≤ i.toNat := by simpa using h
    rw [List.getD_eq_getElem?_getD, List.getElem?_eq_none this]
    rfl
def frm (k : Int) (body : ByteArray) (m : Nat) : ByteArray := strOfNums (hdL k body.size) ++ body ++ zerosS m
theorem frm_list (k : Int) (body : ByteArray) (m : Nat) : (frm k body m).data.toList = (hdL k body.size).map (fun n => UInt8.ofNat n.toNat) ++ (body.data.toList ++ List.replicate m 0) := by
  unfold frm
  rw [ByteArray.data_append, ByteArray.data_append]
  simp [zerosS, strOfNums_data, List.append_assoc]
theorem frm_size (k : Int) (body : ByteArray) (m : Nat) : (frm k body m).size = 5 + body.size + m := by
  have := congrArg List.length (frm_list k body m)
  simp [hdL] at this
  rw [this]
  omega
theorem u8_of (n : Int) (h0 : 0 ≤ n) (h1 : n ≤ 255) : ((UInt8.ofNat n.toNat).toNat : Int) = n := by
  rw [UInt8.toNat_ofNat']
  omega
theorem frm_0 (k : Int) (body : ByteArray) (m : Nat) (h : 0 ≤ k) (h1 : k ≤ 255) : bt (frm k body m) 0 = k := by
  rw [bt_list, frm_list]
  exact u8_of k h h1
theorem frm_n (k : Int) (body : ByteArray) (m : Nat) (h : body.size ≤ 1048576) : headN (frm k body m) = body.size := by
  unfold headN
  simp only [bt_list, frm_list]
  have e1 := u8_of ((body.size : Int) / 16777216) (by omega) (by omega)
  have e2 := u8_of ((body.size : Int) / 65536) (by omega) (by omega)
  have e3 := u8_of ((body.size : Int) / 256 % 256) (by omega) (by omega)
  have e4 := u8_of ((body.size : Int) % 256) (by omega) (by omega)
  show 16777216 * ((UInt8.ofNat ((body.size : Int) / 16777216).toNat).toNat : Int) + 65536 * ((UInt8.ofNat ((body.size : Int) / 65536).toNat).toNat : Int) + 256 * ((UInt8.ofNat ((body.size : Int) / 256 % 256).toNat).toNat : Int) + ((UInt8.ofNat ((body.size : Int) % 256).toNat).toNat : Int) = _
  rw [e1, e2, e3, e4]
  omega
theorem frm_z (k : Int) (body : ByteArray) (m : Nat) : allz (frm k body m) (5 + body.size) = true := by
  rw [allz_iff]
  intro i h1 h2
  rw [frm_size] at h2
  rw [bt_list, frm_list, Int.toNat_natCast, List.getD_eq_getElem?_getD]
  rw [List.getElem?_append_right (by simp [hdL]; omega), List.getElem?_append_right (by simp [hdL]; omega), List.getElem?_replicate]
  split <;> rfl
theorem frm_body (k : Int) (body : ByteArray) (m : Nat) : (frm k body m).extract 5 (5 + body.size) = body := by
  apply ByteArray.ext
  apply Array.ext'
  rw [ByteArray.data_extract, Array.toList_extract, frm_list]
  simp [hdL, List.extract_eq_take_drop]
theorem unpack_frm (k : Int) (body : ByteArray) (m : Nat) (h : 1 ≤ k) (h1 : k ≤ 255) (hs : 5 + body.size + m ≤ 1048576) : frame_Unpack.f k (frm k body m) = some (body, 0) := by
  unfold frame_Unpack.f
  have hz := frm_size k body m
  rw [if_neg (by omega), frm_0 k body m (by omega) h1, if_neg (by omega), frm_n k body m (by omega), if_neg (by omega), Int.toNat_natCast, if_pos (frm_z k body m), frm_body]
theorem unpack_frm_other (k o : Int) (body : ByteArray) (m : Nat) (h : 1 ≤ k) (h1 : k ≤ 255) (hs : 5 + body.size + m ≤ 1048576) (ho : o ≠ k) : frame_Unpack.f o (frm k body m) = some (⟨#[]⟩, 92) := by
  unfold frame_Unpack.f
  have hz := frm_size k body m
  rw [if_neg (by omega), frm_0 k body m (by omega) h1, if_pos (by omega)]
theorem pack_f (k : Int) (body : ByteArray) (n : Int) (h : 1 ≤ k) (h1 : k ≤ 255) (hn : n ≤ 1048576) (hb : (body.size : Int) + 5 ≤ n) : frame_Pack.f k body n = some (frm k body (n - (body.size : Int) - 5).toNat, 0) := by
  unfold frame_Pack.f
  rw [if_neg (by omega), if_neg (by omega), if_pos (by omega), if_neg (by omega)]
  rfl
/-! ### the document's Unpack -/
theorem ref_unpack_l1 (s : ByteArray) (hs : s.size ≤ 1048576) (n : Nat) (hn : 5 + n ≤ s.size) (d : Nat) : ∀ (k i : Nat), i + d = s.size → d < k → 5 + n ≤ i → (∀ j : Nat, 5 + n ≤ j → j < i → bt s j = 0) →
    casketref9_Unpack.l1 k s n i = some (if allz s (5 + n) = true then (s.extract 5 (5 + n), 0) else ((⟨#[]⟩ : ByteArray), 91)) := by
  induction d with
  | zero =>
    intro k i hi hk h5 hz
    obtain ⟨k, rfl⟩ : ∃ q, k = q + 1 := ⟨k - 1, by omega⟩
    simp only [casketref9_Unpack.l1]
    rw [if_neg (by omega), w_id (n := 5 + (n : Int)) (by omega) (by omega), if_pos (by omega), if_pos (by omega)]
    have : allz s (5 + n) = true := (allz_iff s _).2 fun j h1 h2 => hz j h1 (by omega)
    rw [if_pos this]
    congr 3
  | succ d ih =>
    intro k i hi hk h5 hz
    obtain ⟨k, rfl⟩ : ∃ q, k = q + 1 := ⟨k - 1, by omega⟩
    simp only [casketref9_Unpack.l1]
    rw [if_pos (by omega), if_pos (by omega)]
    by_cases hb : bt s i = 0
    · rw [if_pos hb, w_id (n := (i : Int) + 1) (by omega) (by omega), show (i : Int) + 1 = ((i + 1 : Nat) : Int) by omega]
      refine ih k (i + 1) (by omega) (by omega) (by omega) fun j h1 h2 => ?_
      by_cases e : j = i
      · subst e; exact hb
      · exact hz j h1 (by omega)
    · rw [if_neg hb]
      have : ¬ allz s (5 + n) = true := fun h => hb ((allz_iff s _).1 h i h5 (by omega))
      rw [if_neg this]
theorem ref_unpack (a : Int) (s : ByteArray) (hs : s.size ≤ 140737488351232) (k : Nat) (hk : 1048600 ≤ k) : casketref9_Unpack.f k a s = frame_Unpack.f a s := by
  obtain ⟨k, rfl⟩ : ∃ q, k = q + 10 := ⟨k - 10, by omega⟩
  unfold casketref9_Unpack.f frame_Unpack.f
  by_cases h1 : (s.size : Int) > 1048576
  · rw [if_pos h1, if_pos h1]
  rw [if_neg h1, if_neg h1]
  have jt : casketref9_Unpack.j0 (k + 10) s true = some ((⟨#[]⟩ : ByteArray), 92) := by
    simp only [casketref9_Unpack.j0, if_true]
  by_cases h2 : a < 1
  · rw [if_pos h2, jt, if_pos (.inl h2)]
  rw [if_neg h2]
  by_cases h3 : a > 255
  · rw [if_pos h3, jt, if_pos (.inr (.inl h3))]
  rw [if_neg h3]
  by_cases h4 : (s.size : Int) < 5
  · rw [if_pos h4, jt, if_pos (.inr (.inr (.inl h4)))]
  have b0 := bt_range s 0
  rw [if_neg h4, if_pos (by omega), w_id (n := bt s 0) (by omega) (by omega)]
  by_cases h5 : bt s 0 = a
  · have : (bt s 0 != a) = false := by simp [h5]
    rw [this, if_neg (by omega)]
    simp only [casketref9_Unpack.j0]
    rw [if_neg (by decide)]
    have b1 := bt_range s 1
    have b2 := bt_range s 2
    have b3 := bt_range s 3
    have b4 := bt_range s 4
    simp only [casketref9_Unpack.l0]
    rw [if_pos (by omega), if_pos (by omega), if_pos (by omega), w_id (n := (256 : Int) * 0) (by omega) (by omega), w_id (n := bt s 1) (by omega) (by omega), w_id (n := (256 : Int) * 0 + bt s 1) (by omega) (by omega), w_id (n := (1 : Int) + 1) (by omega) (by omega)]
    rw [show (1 : Int) + 1 = 2 by rfl, if_pos (by omega), if_pos (by omega), if_pos (by omega), w_id (n := 256 * ((256 : Int) * 0 + bt s 1)) (by omega) (by omega), w_id (n := bt s 2) (by omega) (by omega), w_id (n := 256 * ((256 : Int) * 0 + bt s 1) + bt s 2) (by omega) (by omega), w_id (n := (2 : Int) + 1) (by omega) (by omega)]
    rw [show (2 : Int) + 1 = 3 by rfl, if_pos (by omega), if_pos (by omega), if_pos (by omega), w_id (n := 256 * (256 * ((256 : Int) * 0 + bt s 1) + bt s 2)) (by omega) (by omega), w_id (n := bt s 3) (by omega) (by omega), w_id (n := 256 * (256 * ((256 : Int) * 0 + bt s 1) + bt s 2) + bt s 3) (by omega) (by omega), w_id (n := (3 : Int) + 1) (by omega) (by omega)]
    rw [show (3 : Int) + 1 = 4 by rfl, if_pos (by omega), if_pos (by omega), if_pos (by omega), w_id (n := 256 * (256 * (256 * ((256 : Int) * 0 + bt s 1) + bt s 2) + bt s 3)) (by omega) (by omega), w_id (n := bt s 4) (by omega) (by omega), w_id (n := 256 * (256 * (256 * ((256 : Int) * 0 + bt s 1) + bt s 2) + bt s 3) + bt s 4) (by omega) (by omega), w_id (n := (4 : Int) + 1) (by omega) (by omega)]
    rw [show (4 : Int) + 1 = 5 by rfl, if_neg (by omega), show 256 * (256 * (256 * ((256 : Int) * 0 + bt s 1) + bt s 2) + bt s 3) + bt s 4 = headN s by unfold headN; omega]
    have hh : 0 ≤ headN s ∧ headN s < 4294967296 := by unfold headN; omega
    rw [w_id (n := (s.size : Int) - 5) (by omega) (by omega)]
    by_cases h6 : headN s > (s.size : Int) - 5
    · rw [if_pos h6, if_pos h6]
    · rw [if_neg h6, if_neg h6]
      obtain ⟨n, hn⟩ := Int.eq_ofNat_of_zero_le hh.1
      rw [hn] at h6 ⊢
      rw [w_id (n := 5 + (n : Int)) (by omega) (by omega), show 5 + (n : Int) = ((5 + n : Nat) : Int) by omega, Int.toNat_natCast]
      rw [ref_unpack_l1 s (by omega) n (by omega) (s.size - (5 + n)) _ (5 + n) (by omega) (by omega) (by omega) (fun j h1 h2 => by omega)]
      split <;> rfl
  · have : (bt s 0 != a) = true := by simp [h5]
    rw [this, jt, if_pos (.inr (.inr (.inr h5)))]
/-! ### the document's Pack -/
theorem strOfNums_append (xs ys : List Int) : strOfNums (xs ++ ys) = strOfNums xs ++ strOfNums ys := by
  apply ByteArray.ext
  rw [ByteArray.data_append]
  apply Array.ext'
  simp [strOfNums_data]
theorem ref_pack_l1 (n : Int) (hn : n ≤ 1048576) (d : Nat) : ∀ (k : Nat) (xs : List Int), (xs.length : Int) + d = n → d < k → casketref9_Pack.l1 k n xs = some (strOfNums xs ++ zerosS d, 0) := by
  induction d with
  | zero =>
    intro k xs h hk
    obtain ⟨k, rfl⟩ : ∃ q, k = q + 1 := ⟨k - 1, by omega⟩
    simp only [casketref9_Pack.l1]
    rw [if_neg (by omega)]
    congr 2
    apply ByteArray.ext
    simp [zerosS]
  | succ d ih =>
    intro k xs h hk
    obtain ⟨k, rfl⟩ : ∃ q, k = q + 1 := ⟨k - 1, by omega⟩
    simp only [casketref9_Pack.l1]
    rw [if_pos (by omega), if_pos (by omega), ih k (xs ++ [0]) (by simp; omega) (by omega), strOfNums_append]
    congr 2
    apply ByteArray.ext
    rw [ByteArray.data_append, ByteArray.data_append, ByteArray.data_append, Array.append_assoc]
    congr 1
    simp [zerosS, strOfNums, List.replicate_succ]
theorem ref_pack_l0 (s : ByteArray) (n : Int) (hn : n ≤ 1048576) (hs : (s.size : Int) + 5 ≤ n) (hd : List Int) (h5 : hd.length = 5) (d : Nat) : ∀ (k i : Nat), i + d = s.size → d + 1048600 < k →
    casketref9_Pack.l0 k s n s.size (hd ++ (s.data.toList.take i).map fun c => (c.toNat : Int)) i = some (strOfNums hd ++ s ++ zerosS (n - (s.size : Int) - 5).toNat, 0) := by
  induction d with
  | zero =>
    intro k i h hk
    obtain ⟨k, rfl⟩ : ∃ q, k = q + 1 := ⟨k - 1, by omega⟩
    simp only [casketref9_Pack.l0]
    have hl : s.data.toList.length = s.size := by simp
    rw [if_neg (by omega), ref_pack_l1 n hn (n - (s.size : Int) - 5).toNat k _ (by simp [h5, hl]; omega) (by omega), strOfNums_append, List.take_of_length_le (by omega)]
    congr 2
    congr 1
    congr 1
    apply ByteArray.ext
    apply Array.ext'
    simp only [strOfNums, List.map_map]
    exact (List.map_congr_left (g := fun c => c) (fun c _ => by simp)).trans (List.map_id' _)
  | succ d ih =>
    intro k i h hk
    obtain ⟨k, rfl⟩ : ∃ q, k = q + 1 := ⟨k - 1, by omega⟩
    simp only [casketref9_Pack.l0]
    have hl : s.data.toList.length = s.size := by simp
    rw [if_pos (by omega), if_pos (by omega), if_pos (by omega), if_pos (by simp [h5, hl]; omega), w_id (n := (i : Int) + 1) (by omega) (by omega), show (i : Int) + 1 = ((i + 1 : Nat) : Int) by omega]
    rw [← ih k (i + 1) (by omega) (by omega)]
    congr 1
    rw [List.append_assoc]
    congr 1
    rw [List.take_succ_eq_append_getElem (by omega), List.map_append]
    congr 1
    simp only [List.map_cons, List.map_nil]
    congr 1
    rw [← nth s i (by omega)]
    rfl
theorem ref_pack (a : Int) (s : ByteArray) (n : Int) (ha : (Lit.int .i64 a).wf = true) (hn : (Lit.int .i64 n).wf = true) (hs : s.size ≤ 140737488351232) (k : Nat) (hk : 3000000 ≤ k) : casketref9_Pack.f k a s n = frame_Pack.f a s n := by
  obtain ⟨k, rfl⟩ : ∃ q, k = q + 2 := ⟨k - 2, by omega⟩
  unfold casketref9_Pack.f frame_Pack.f
  have jt : casketref9_Pack.j0 (k + 2) a s n true = some ((⟨#[]⟩ : ByteArray), 92) := by
    simp only [casketref9_Pack.j0, if_true]
  have j1t : casketref9_Pack.j1 (k + 1) a s n true = some ((⟨#[]⟩ : ByteArray), 90) := by
    simp only [casketref9_Pack.j1, if_true]
  by_cases h1 : a < 1
  · rw [if_pos h1, jt, if_pos (.inl h1)]
  rw [if_neg h1]
  by_cases h2 : a > 255
  · rw [decide_eq_true h2, jt, if_pos (.inr h2)]
  rw [decide_eq_false h2, if_neg (by omega)]
  simp only [casketref9_Pack.j0]
  rw [if_neg (by decide)]
  by_cases h3 : n > 1048576
  · rw [if_pos h3, if_pos h3]
  rw [if_neg h3, if_neg h3, if_pos (show (s.size : Int) ≤ 140737488351232 by omega)]
  by_cases h4 : n < 5
  · rw [if_pos h4, j1t, if_pos (by omega)]
  rw [if_neg h4, w_id (n := n - 5) (by omega) (by omega)]
  by_cases h5 : (s.size : Int) > n - 5
  · rw [decide_eq_true h5, j1t, if_pos (by omega)]
  rw [decide_eq_false h5, if_neg (by omega)]
  simp only [casketref9_Pack.j1]
  rw [if_neg (by decide)]
  have := ref_pack_l0 s n (by omega) (by omega) [a % 256, wrap64 ((s.size : Int) / 16777216) % 256, Int.tmod (wrap64 ((s.size : Int) / 65536)) 256 % 256, Int.tmod (wrap64 ((s.size : Int) / 256)) 256 % 256, (s.size : Int) % 256] rfl s.size k 0 (by omega) (by omega)
  simp only [List.take_zero, List.map_nil, List.append_nil] at this
  refine this.trans ?_
  congr 5
  unfold hdL
  rw [w_id (n := (s.size : Int) / 16777216) (by omega) (by omega), w_id (n := (s.size : Int) / 65536) (by omega) (by omega), w_id (n := (s.size : Int) / 256) (by omega) (by omega)]
  rw [Int.tmod_eq_emod_of_nonneg (by omega), Int.tmod_eq_emod_of_nonneg (by omega)]
  congr 1
  · omega
  congr 1
  · omega
  congr 1
  · omega
  congr 1
  · omega
end Go.Proofs.Ytaiieopllffljaa.Kit
