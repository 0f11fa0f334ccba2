/- casketlaw11.PathJoins returns true for every input: just the names that may be, up to sixteen, are taken, each behind a slash. The card: the two tables of unicode/utf8 that the row lists hold what the library's text lays. -/
import Derived.Test.YtecfnngbomnnjaaDoorKitE
import Derived.Test.YtecfnngbomnnjaaDoorSayPathJoins
namespace Go.Proofs.YtecfnngbomnnjaaDoor.Pure
open Go.RowKit Go.Proofs.YtecfnngbomnnjaaDoor.PAll Go.Proofs.YtecfnngbomnnjaaDoor.G Go.Proofs.YtecfnngbomnnjaaDoor.Kit Go.Proofs.YtecfnngbomnnjaaDoor.Open Go.Proofs.YtecfnngbomnnjaaDoor.Say Go.Proofs.YtecfnngbomnnjaaDoorW.PrintWords Go.Proofs.YtecfnngbomnnjaaDoorW.PrintLast Go.Proofs.YtecfnngbomnnjaaDoorW.PrintMore
set_option linter.unusedVariables false

theorem good_l0 (s : ByteArray) (hs : s.size ≤ 140737488351232) (d : Nat) : ∀ (k i n : Nat), i + d = s.size → d < k → n ≤ i → ((n = i ↔ ∀ j : Nat, j < i → goodB (bt s j) = true)) →
    casketlaw11_good.l0 k s n i = some (decide (1 ≤ s.size) && decide (s.size ≤ 32) && !(s.toList == [46]) && !(s.toList == [46, 46]) && allGood s) := by
  induction d with
  | zero =>
    intro k i n hi hk hn hg
    obtain ⟨k, rfl⟩ : ∃ q, k = q + 1 := ⟨k - 1, by omega⟩
    simp only [casketlaw11_good.l0]
    rw [if_neg (by omega)]
    by_cases e : n = i
    · have ha : allGood s = true := (allGood_iff s).2 fun j hj => hg.1 e j (by omega)
      rw [if_pos (by omega), ha]
      by_cases c1 : 1 ≤ s.size
      · rw [if_pos (by omega), decide_eq_true c1]
        by_cases c2 : s.size ≤ 32
        · rw [if_pos (by omega), decide_eq_true c2]
          by_cases c3 : s.toList = [46]
          · rw [if_pos c3, c3]; rfl
          · rw [if_neg c3, beq_eq_false_iff_ne.2 c3]
            simp [bne]
        · rw [if_neg (by omega), decide_eq_false c2]; simp
      · rw [if_neg (by omega), decide_eq_false c1]; simp
    · have ha : allGood s = false := by
        cases h : allGood s with
        | false => rfl
        | true => exact absurd (hg.2 fun j hj => (allGood_iff s).1 h j (by omega)) e
      rw [if_neg (by omega), ha]
      simp
  | succ d ih =>
    intro k i n hi hk hn hg
    obtain ⟨k, rfl⟩ : ∃ q, k = q + 1 := ⟨k - 1, by omega⟩
    simp only [casketlaw11_good.l0]
    rw [if_pos (by omega), if_pos (by omega)]
    have hw : wrap64 ((i : Int) + 1) = ((i + 1 : Nat) : Int) := by rw [w_id (by omega) (by omega)]; omega
    have hw2 : wrap64 ((n : Int) + 1) = ((n + 1 : Nat) : Int) := by rw [w_id (by omega) (by omega)]; omega
    have stay : goodB (bt s i) = false → casketlaw11_good.l0 k s n ((i + 1 : Nat) : Int) = some (decide (1 ≤ s.size) && decide (s.size ≤ 32) && !(s.toList == [46]) && !(s.toList == [46, 46]) && allGood s) := by
      intro hb
      refine ih k (i + 1) n (by omega) (by omega) (by omega) ⟨fun e => absurd e (by omega), fun h => ?_⟩
      have := h i (by omega)
      rw [hb] at this
      cases this
    rw [hw, hw2]
    by_cases c1 : bt s i > 32
    · rw [if_pos c1]
      by_cases c2 : bt s i < 127
      · rw [if_pos c2]
        by_cases c3 : bt s i = 47
        · rw [if_pos c3]
          exact stay (by cases h : goodB (bt s i) with | false => rfl | true => exact absurd c3 ((goodB_iff _).1 h).2.2)
        · rw [if_neg c3]
          have hb : goodB (bt s i) = true := (goodB_iff _).2 ⟨by omega, by omega, c3⟩
          refine ih k (i + 1) (n + 1) (by omega) (by omega) (by omega) ⟨fun e j hj => ?_, fun h => ?_⟩
          · by_cases e2 : j = i
            · subst e2; exact hb
            · exact hg.1 (by omega) j (by omega)
          · have := hg.2 fun j hj => h j (by omega)
            omega
      · rw [if_neg c2]
        exact stay (by cases h : goodB (bt s i) with | false => rfl | true => exact absurd ((goodB_iff _).1 h).2.1 (by omega))
    · rw [if_neg c1]
      exact stay (by cases h : goodB (bt s i) with | false => rfl | true => exact absurd ((goodB_iff _).1 h).1 (by omega))
theorem good_f (s : ByteArray) (hs : s.size ≤ 140737488351232) (k : Nat) (hk : s.size < k) : casketlaw11_good.f k s = some (nameB s) := by
  unfold casketlaw11_good.f nameB
  exact good_l0 s hs s.size k 0 0 (by omega) hk (Nat.le_refl _) ⟨fun _ j hj => absurd hj (by omega), fun _ => rfl⟩
theorem toB_size (l : List UInt8) : (toB l).size = l.length := by simp [toB, ByteArray.size]
theorem joins_l0 (l : List ByteArray) (hn : l.length ≤ 100) (hs : ∀ x ∈ l, x.size ≤ 140737488351232) (d : Nat) : ∀ (k i : Nat), i + d = l.length → d + 140737488352000 < k → (cat (l.take i)).length ≤ i * 140737488351300 →
    casketlaw11_PathJoins.l0 k l ((l.take i).all nameB) (toB (cat (l.take i))) i = some true := by
  induction d with
  | zero =>
    intro k i hi hk hc
    obtain ⟨k, rfl⟩ : ∃ q, k = q + 1 := ⟨k - 1, by omega⟩
    simp only [casketlaw11_PathJoins.l0]
    have e0 : (⟨#[]⟩ : ByteArray).toList = [] := by decide +kernel
    rw [if_neg (by omega), List.take_of_length_le (by omega)]
    have hlim : ([] : List ByteArray).length + l.length < 8796093022208 := by rw [List.length_nil]; omega
    cases l with
    | nil =>
      have hs0 : (toB (cat [])).toList = [] := by decide +kernel
      have he : errOf [] = 0 := by decide
      have ht : textS [] = (⟨#[47]⟩ : ByteArray) := by decide +kernel
      rw [if_pos hs0, if_pos hlim, List.nil_append, text_of, he, if_pos rfl, ht, Option.bind_some]
      decide +kernel
    | cons x r =>
      have hs0 : ¬ (toB (cat (x :: r))).toList = [] := by rw [ByteArray.toList_eq]; simp [toB, cat]
      rw [if_neg hs0, if_pos hlim, List.nil_append, text_of]
      by_cases ha : (x :: r).all nameB = true
      · by_cases h16 : (x :: r).length > 16
        · have he : errOf (x :: r) = 112 := by unfold errOf; rw [if_pos ha, if_pos h16]
          rw [he, if_neg (by decide), Option.bind_some, if_pos ha, if_pos (by omega), if_pos e0]
          rfl
        · have he : errOf (x :: r) = 0 := by unfold errOf; rw [if_pos ha, if_neg h16]
          have ht : textS (x :: r) = toB (cat (x :: r)) := by unfold textS; rw [if_neg (by simp)]; rfl
          rw [he, if_pos rfl, Option.bind_some, if_pos ha, if_neg (by omega), ht, if_pos rfl]
          rfl
      · have he : errOf (x :: r) = 111 := by unfold errOf; rw [if_neg ha]
        rw [he, if_neg (by decide), Option.bind_some, if_neg ha, if_pos e0]
        rfl
  | succ d ih =>
    intro k i hi hk hc
    obtain ⟨k, rfl⟩ : ∃ q, k = q + 1 := ⟨k - 1, by omega⟩
    simp only [casketlaw11_PathJoins.l0]
    have hx := hs _ (List.getElem_mem (by omega : i < l.length))
    have hxl : (l[i]'(by omega)).data.toList.length = (l[i]'(by omega)).size := by simp
    rw [if_pos (by omega), if_pos (by omega), rdOf_at l i (by omega), good_f _ hx k (by omega), Option.bind_some]
    unfold path_Name.f
    simp only [Option.bind_some, casketlaw11_num.f]
    have e1 : (((if nameB (l[i]'(by omega)) = true then (0 : Int) else 111) == 0) != nameB (l[i]'(by omega))) = false := by
      cases nameB (l[i]'(by omega)) <;> rfl
    have hm : i * 140737488351300 ≤ 100 * 140737488351300 := Nat.mul_le_mul_right _ (by omega)
    have hz2 : (toB (cat (l.take i)) ++ (⟨#[47]⟩ : ByteArray)).size = (cat (l.take i)).length + 1 := by rw [ByteArray.size_append, toB_size]; rfl
    have hcat : cat (l.take (i + 1)) = cat (l.take i) ++ 47 :: (l[i]'(by omega)).data.toList := by
      rw [List.take_succ_eq_append_getElem (by omega), cat_append]
      simp [cat]
    have hT : (toB (cat (l.take i)) ++ (⟨#[47]⟩ : ByteArray)) ++ (l[i]'(by omega)) = toB (cat (l.take (i + 1))) := by
      rw [hcat]
      apply ByteArray.ext
      apply Array.ext'
      simp [toB, ByteArray.data_append]
    have hA : (l.take (i + 1)).all nameB = ((l.take i).all nameB && nameB (l[i]'(by omega))) := by
      rw [List.take_succ_eq_append_getElem (by omega), List.all_append]
      simp
    have hc' : (cat (l.take (i + 1))).length ≤ (i + 1) * 140737488351300 := by
      rw [hcat, List.length_append, List.length_cons, Nat.add_mul]
      omega
    have IH := ih k (i + 1) (by omega) (by omega) hc'
    rw [hA, ← hT] at IH
    rw [e1, toB_size, hz2, if_neg (by decide)]
    have hlim : (cat (l.take i)).length + 1 ≤ 9223372036854775807 := by omega
    have hlim2 : (cat (l.take i)).length + 1 + (l[i]'(by omega)).size ≤ 9223372036854775807 := by omega
    by_cases hb : (l.take i).all nameB = true
    · rw [if_pos hb, if_pos hlim, if_pos hlim2, w_id (n := (i : Int) + 1) (by omega) (by omega), show (i : Int) + 1 = ((i + 1 : Nat) : Int) by omega]
      rw [hb, Bool.true_and] at IH
      exact IH
    · have hb' : (l.take i).all nameB = false := by simpa using hb
      rw [if_neg hb, if_pos hlim, if_pos hlim2, w_id (n := (i : Int) + 1) (by omega) (by omega), show (i : Int) + 1 = ((i + 1 : Nat) : Int) by omega]
      rw [hb', Bool.false_and] at IH
      exact IH
theorem PathJoins : SayPathJoins := by
  intro l0 h0
  obtain ⟨K, hK⟩ : ∃ K, 140737488353000 ≤ K := ⟨_, Nat.le_refl _⟩
  refine ⟨K, ?_⟩
  unfold casketlaw11_PathJoins.f
  by_cases c : (l0.length : Int) > 100
  · rw [if_pos c, works_f K (by omega)]
    rfl
  · rw [if_neg c]
    exact joins_l0 l0 (by omega) h0.2 l0.length K 0 (by omega) (by omega) (by simp [cat])

end Go.Proofs.YtecfnngbomnnjaaDoor.Pure
