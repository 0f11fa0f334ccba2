/- Plain laws of paths: the document's Name, names, Text and Inside answer what the program's do. -/
import Derived.Test.YtecfnngbomnnjaaDoorPAllx4
namespace Go.Proofs.YtecfnngbomnnjaaDoor.Kit
open Go.RowKit Go.Proofs.YtecfnngbomnnjaaDoor.PAll Go.Proofs.YtecfnngbomnnjaaDoor.G Go.Proofs.YtecfnngbomnnjaaDoorW.PrintWords Go.Proofs.YtecfnngbomnnjaaDoorW.PrintLast Go.Proofs.YtecfnngbomnnjaaDoorW.PrintMore
set_option linter.unusedVariables false
set_option linter.unusedSimpArgs false

theorem w_id {n : Int} (h0 : -9223372036854775808 ≤ n) (h1 : n < 9223372036854775808) : wrap64 n = n := by unfold wrap64; omega
theorem list_inj {a b : ByteArray} (h : a.toList = b.toList) : a = b := by
  rw [ByteArray.toList_eq, ByteArray.toList_eq] at h
  exact ByteArray.ext (Array.ext' h)
theorem rdOf_at (l : List ByteArray) (i : Nat) (h : i < l.length) : rdOf ByteArray.empty l (i : Int) = l[i] := by
  unfold rdOf
  rw [Int.toNat_natCast, List.getD_eq_getElem?_getD, List.getElem?_eq_getElem h]
  rfl
/-! ### same -/
theorem same_l0 (a b : List ByteArray) (hl : a.length = b.length) (hm : a.length ≤ 9223372036854775000) (d : Nat) : ∀ (k i : Nat), i + d = a.length → d < k → (∀ j (h1 : j < a.length) (h2 : j < b.length), j < i → a[j] = b[j]) →
    casketlaw11_same.l0 k a b i = some (decide (a = b)) := by
  induction d with
  | zero =>
    intro k i hi hk hz
    obtain ⟨k, rfl⟩ : ∃ q, k = q + 1 := ⟨k - 1, by omega⟩
    simp only [casketlaw11_same.l0]
    rw [if_neg (by omega), decide_eq_true]
    exact List.ext_getElem hl fun j h1 h2 => hz j h1 h2 (by omega)
  | succ d ih =>
    intro k i hi hk hz
    obtain ⟨k, rfl⟩ : ∃ q, k = q + 1 := ⟨k - 1, by omega⟩
    simp only [casketlaw11_same.l0]
    rw [if_pos (by omega), if_pos (by omega), if_pos (by omega), rdOf_at a i (by omega), rdOf_at b i (by omega)]
    by_cases e : (a[i]'(by omega)).toList = (b[i]'(by omega)).toList
    · rw [if_pos e, w_id (n := (i : Int) + 1) (by omega) (by omega), show (i : Int) + 1 = ((i + 1 : Nat) : Int) by omega]
      refine ih k (i + 1) (by omega) (by omega) fun j h1 h2 h3 => ?_
      by_cases e2 : j = i
      · subst e2; exact list_inj e
      · exact hz j h1 h2 (by omega)
    · rw [if_neg e, decide_eq_false]
      intro hc
      subst hc
      exact e rfl
theorem same_f (a b : List ByteArray) (hm : a.length ≤ 9223372036854775000) (k : Nat) (hk : a.length < k) : casketlaw11_same.f k a b = some (decide (a = b)) := by
  unfold casketlaw11_same.f
  by_cases h : a.length = b.length
  · rw [if_pos (by omega)]
    exact same_l0 a b h hm a.length k 0 (by omega) hk (fun j _ _ h => absurd h (by omega))
  · rw [if_neg (by omega), decide_eq_false fun e => h (by rw [e])]
/-! ### Name, names -/
theorem name_l0 (s : ByteArray) (hs : s.size ≤ 9223372036854775000) (d : Nat) : ∀ (k i : Nat), i + d = s.size → d < k → (∀ j : Nat, j < i → goodB (bt s j) = true) → casketref11_Name.l0 k s i = some (if allGood s = true then 0 else 111) := by
  induction d with
  | zero =>
    intro k i hi hk hz
    obtain ⟨k, rfl⟩ : ∃ q, k = q + 1 := ⟨k - 1, by omega⟩
    simp only [casketref11_Name.l0]
    rw [if_neg (by omega), if_pos ((allGood_iff s).2 fun j hj => hz j (by omega))]
  | succ d ih =>
    intro k i hi hk hz
    obtain ⟨k, rfl⟩ : ∃ q, k = q + 1 := ⟨k - 1, by omega⟩
    simp only [casketref11_Name.l0]
    rw [if_pos (by omega), if_pos (by omega)]
    by_cases hg : goodB (bt s i) = true
    · have := (goodB_iff _).1 hg
      rw [if_neg (by omega), if_neg (by omega), if_neg (by omega), w_id (n := (i : Int) + 1) (by omega) (by omega), show (i : Int) + 1 = ((i + 1 : Nat) : Int) by omega]
      refine ih k (i + 1) (by omega) (by omega) fun j hj => ?_
      by_cases e : j = i
      · subst e; exact hg
      · exact hz j (by omega)
    · have hn : ¬ (33 ≤ bt s i ∧ bt s i ≤ 126 ∧ bt s i ≠ 47) := fun h => hg ((goodB_iff _).2 h)
      have ha : ¬ allGood s = true := fun h => hg ((allGood_iff s).1 h i (by omega))
      rw [if_neg ha]
      by_cases c1 : bt s i < 33
      · rw [if_pos c1]
      rw [if_neg c1]
      by_cases c2 : bt s i > 126
      · rw [if_pos c2]
      rw [if_neg c2, if_pos (by omega)]
theorem ref_name (s : ByteArray) (k : Nat) (hk : 40 ≤ k) : casketref11_Name.f k s = path_Name.f s := by
  unfold casketref11_Name.f path_Name.f nameB
  by_cases c1 : s.size < 1
  · rw [if_pos (by omega), decide_eq_false (by omega)]
    rfl
  rw [if_neg (by omega), decide_eq_true (by omega)]
  by_cases c2 : s.size > 32
  · rw [if_pos (by omega), decide_eq_false (by omega)]
    rfl
  rw [if_neg (by omega), decide_eq_true (by omega)]
  by_cases c3 : s.toList = [46]
  · rw [if_pos c3, c3]
    rfl
  rw [if_neg c3, beq_eq_false_iff_ne.2 c3]
  by_cases c4 : s.toList = [46, 46]
  · rw [if_pos c4, c4]
    rfl
  · rw [if_neg c4, beq_eq_false_iff_ne.2 c4]
    simp only [Bool.true_and, Bool.not_false]
    exact name_l0 s (by omega) s.size k 0 (by omega) (by omega) (fun j h => absurd h (by omega))
theorem names_l0 (l : List ByteArray) (hl : l.length ≤ 9223372036854775000) (d : Nat) : ∀ (k i : Nat), i + d = l.length → d + 50 < k → (∀ j (h : j < l.length), j < i → nameB l[j] = true) → casketref11_names.l0 k l i = path_checked.f l := by
  induction d with
  | zero =>
    intro k i hi hk hz
    obtain ⟨k, rfl⟩ : ∃ q, k = q + 1 := ⟨k - 1, by omega⟩
    simp only [casketref11_names.l0]
    have ha : l.all nameB = true := by
      rw [List.all_eq_true]
      intro x hx
      obtain ⟨j, hj, rfl⟩ := List.getElem_of_mem hx
      exact hz j hj (by omega)
    unfold path_checked.f
    rw [if_neg (by omega), if_pos ha]
    by_cases h : l.length > 16
    · rw [if_pos (by omega), if_pos h]
    · rw [if_neg (by omega), if_neg h]
  | succ d ih =>
    intro k i hi hk hz
    obtain ⟨k, rfl⟩ : ∃ q, k = q + 1 := ⟨k - 1, by omega⟩
    simp only [casketref11_names.l0]
    rw [if_pos (by omega), if_pos (by omega), rdOf_at l i (by omega), ref_name _ k (by omega)]
    unfold path_Name.f
    rw [Option.bind_some]
    by_cases hn : nameB (l[i]'(by omega)) = true
    · rw [if_pos hn, if_pos rfl, w_id (n := (i : Int) + 1) (by omega) (by omega), show (i : Int) + 1 = ((i + 1 : Nat) : Int) by omega]
      refine ih k (i + 1) (by omega) (by omega) fun j hj h => ?_
      by_cases e : j = i
      · subst e; exact hn
      · exact hz j hj (by omega)
    · rw [if_neg hn, if_neg (by decide)]
      unfold path_checked.f
      have : ¬ l.all nameB = true := fun h => hn (List.all_eq_true.1 h _ (List.getElem_mem _))
      rw [if_neg this]
theorem ref_names (l : List ByteArray) (hl : l.length ≤ 9223372036854775000) (k : Nat) (hk : l.length + 50 < k) : casketref11_names.f k l = path_checked.f l := by
  unfold casketref11_names.f
  exact names_l0 l hl l.length k 0 (by omega) hk (fun j _ h => absurd h (by omega))
/-! ### Text -/
/-- Each behind a slash. -/
def cat : List ByteArray → List UInt8
  | [] => []
  | x :: r => 47 :: (x.data.toList ++ cat r)
theorem cat_append (a b : List ByteArray) : cat (a ++ b) = cat a ++ cat b := by
  induction a with
  | nil => rfl
  | cons x r ih => simp [cat, ih]
theorem cat_len (l : List ByteArray) (h : ∀ x ∈ l, x.size ≤ 32) : (cat l).length ≤ 33 * l.length := by
  induction l with
  | nil => simp [cat]
  | cons x r ih =>
    have h1 := ih fun y hy => h y (List.mem_cons_of_mem _ hy)
    have h2 := h x List.mem_cons_self
    have h3 : x.data.toList.length = x.size := by simp
    simp only [cat, List.length_cons, List.length_append]
    omega
theorem join_cat (x : ByteArray) (r : List ByteArray) : 47 :: Lib.join ((x :: r).map (·.data.toList)) [47] = cat (x :: r) := by
  rw [List.map_cons, Lib.join_cons]
  simp only [cat]
  congr 2
  induction r with
  | nil => rfl
  | cons y r ih =>
    simp only [List.map_cons, Lib.joinTail, List.flatten_cons, cat]
    simp only [Lib.joinTail] at ih
    rw [ih]
    simp
theorem text_l0 (l : List ByteArray) (hn : l.length ≤ 16) (hs : ∀ x ∈ l, x.size ≤ 32) (d : Nat) : ∀ (k i : Nat), i + d = l.length → d < k → casketref11_Text.l0 k l ⟨(cat (l.take i)).toArray⟩ i = some (⟨(cat l).toArray⟩, 0) := by
  induction d with
  | zero =>
    intro k i hi hk
    obtain ⟨k, rfl⟩ : ∃ q, k = q + 1 := ⟨k - 1, by omega⟩
    simp only [casketref11_Text.l0]
    rw [if_neg (by omega), List.take_of_length_le (by omega)]
  | succ d ih =>
    intro k i hi hk
    obtain ⟨k, rfl⟩ : ∃ q, k = q + 1 := ⟨k - 1, by omega⟩
    simp only [casketref11_Text.l0]
    have hc := cat_len (l.take i) (fun x hx => hs x (List.mem_of_mem_take hx))
    rw [List.length_take] at hc
    have hz : (⟨(cat (l.take i)).toArray⟩ : ByteArray).size = (cat (l.take i)).length := by simp [ByteArray.size]
    have hz2 : ((⟨(cat (l.take i)).toArray⟩ : ByteArray) ++ (⟨#[47]⟩ : ByteArray)).size = (cat (l.take i)).length + 1 := by rw [ByteArray.size_append, hz]; rfl
    have hx := hs _ (List.getElem_mem (by omega : i < l.length))
    rw [if_pos (by omega), hz, if_pos (by omega), if_pos (by omega), rdOf_at l i (by omega), hz2, if_pos (by omega), w_id (n := (i : Int) + 1) (by omega) (by omega), show (i : Int) + 1 = ((i + 1 : Nat) : Int) by omega]
    rw [← ih k (i + 1) (by omega) (by omega)]
    congr 1
    rw [List.take_succ_eq_append_getElem (by omega), cat_append]
    apply ByteArray.ext
    apply Array.ext'
    simp [cat, ByteArray.data_append]
theorem name_size (s : ByteArray) (h : nameB s = true) : s.size ≤ 32 := by
  unfold nameB at h
  simp only [Bool.and_eq_true, decide_eq_true_eq] at h
  exact h.1.1.1.2
/-- What a list's text is. -/
def textS (l : List ByteArray) : ByteArray := if l.length = 0 then ⟨#[47]⟩ else ⟨(cat l).toArray⟩
theorem ref_text (l : List ByteArray) (hl : l.length ≤ 9223372036854775000) (k : Nat) (hk : l.length + 50 < k) : casketref11_Text.f k l = some (if path_checked.f l = some 0 then (textS l, 0) else (⟨#[]⟩, (path_checked.f l).getD 0)) := by
  unfold casketref11_Text.f
  rw [ref_names l hl k hk]
  obtain ⟨e, he⟩ : ∃ e, path_checked.f l = some e := ⟨_, rfl⟩
  rw [he, Option.bind_some]
  by_cases h0 : e = 0
  · subst h0
    rw [if_pos rfl, if_pos rfl]
    unfold textS
    by_cases hz : l.length = 0
    · rw [if_pos (by omega), if_pos hz]
    · rw [if_neg (by omega), if_neg hz]
      have hc := Option.some.inj he
      by_cases ha : l.all nameB = true
      · rw [if_pos ha] at hc
        by_cases h16 : l.length > 16
        · rw [if_pos h16] at hc; cases hc
        · exact text_l0 l (by omega) (fun x hx => name_size x (List.all_eq_true.1 ha x hx)) l.length k 0 (by omega) (by omega)
      · rw [if_neg ha] at hc; cases hc
  · have : ¬ (some e = some 0) := fun h => h0 (Option.some.inj h)
    rw [if_neg h0, if_neg this]
    rfl
theorem path_text (l : List ByteArray) : path_Text.f l = some (if path_checked.f l = some 0 then (textS l, 0) else (⟨#[]⟩, (path_checked.f l).getD 0)) := by
  unfold path_Text.f
  obtain ⟨e, he⟩ : ∃ e, path_checked.f l = some e := ⟨_, rfl⟩
  rw [he, Option.bind_some]
  by_cases h0 : e = 0
  · subst h0
    rw [if_pos rfl, if_pos rfl]
    have hc := Option.some.inj he
    by_cases ha : l.all nameB = true
    · rw [if_pos ha] at hc
      by_cases h16 : l.length > 16
      · rw [if_pos h16] at hc; cases hc
      · have hsz : ∀ x ∈ l, x.size ≤ 32 := fun x hx => name_size x (List.all_eq_true.1 ha x hx)
        unfold strings_Join.f textS joinS
        cases l with
        | nil =>
          rw [if_pos (by decide), Option.bind_some, if_pos (by decide)]
          rfl
        | cons x r =>
          have hj := join_cat x r
          have hlen := cat_len (x :: r) hsz
          have hl2 : (Lib.join ((x :: r).map (·.data.toList)) [47]).length + 1 = (cat (x :: r)).length := by rw [← hj]; rfl
          have hb : (Lib.join ((x :: r).map (·.data.toList)) (⟨#[47]⟩ : ByteArray).data.toList).length = (Lib.join ((x :: r).map (·.data.toList)) [47]).length := rfl
          rw [hb, if_pos ⟨by omega, by omega⟩, Option.bind_some]
          have hs2 : (⟨(Lib.join ((x :: r).map (·.data.toList)) (⟨#[47]⟩ : ByteArray).data.toList).toArray⟩ : ByteArray).size = (Lib.join ((x :: r).map (·.data.toList)) [47]).length := by simp [ByteArray.size]
          rw [hs2, if_pos (by omega), if_neg (by simp)]
          congr 2
          rw [← hj]
          apply ByteArray.ext
          apply Array.ext'
          simp [ByteArray.data_append]
    · rw [if_neg ha] at hc; cases hc
  · have : ¬ (some e = some 0) := fun h => h0 (Option.some.inj h)
    rw [if_neg h0, if_neg this]
    rfl
end Go.Proofs.YtecfnngbomnnjaaDoor.Kit
