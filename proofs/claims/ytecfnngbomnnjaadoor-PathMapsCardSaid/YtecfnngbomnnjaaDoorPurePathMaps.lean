/- casketlaw11.PathMaps returns true for every input: every name of the text goes by the pairs, and the lists stay. The card: the two tables of unicode/utf8 that the row lists hold what the library's text lays. -/
import Derived.Test.YtecfnngbomnnjaaDoorKitE
import Derived.Test.YtecfnngbomnnjaaDoorSayPathMaps
namespace Go.Proofs.YtecfnngbomnnjaaDoor.Pure
open Go.RowKit Go.Proofs.YtecfnngbomnnjaaDoor.PAll Go.Proofs.YtecfnngbomnnjaaDoor.G Go.Proofs.YtecfnngbomnnjaaDoor.Kit Go.Proofs.YtecfnngbomnnjaaDoor.Open Go.Proofs.YtecfnngbomnnjaaDoor.Say Go.Proofs.YtecfnngbomnnjaaDoorW.PrintWords Go.Proofs.YtecfnngbomnnjaaDoorW.PrintLast Go.Proofs.YtecfnngbomnnjaaDoorW.PrintMore
set_option linter.unusedVariables false

theorem changed_l0 (x : ByteArray) (a b : List ByteArray) (hl : a.length = b.length) (hm : a.length ≤ 9223372036854775000) (d : Nat) : ∀ (k i : Nat), i + d = a.length → d < k → (∀ j (h : j < a.length), j < i → a[j] ≠ x) →
    casketref11_Changed.l0 k x a b i = some (changed a b x) := by
  induction d with
  | zero =>
    intro k i hi hk hn
    obtain ⟨k, rfl⟩ : ∃ q, k = q + 1 := ⟨k - 1, by omega⟩
    simp only [casketref11_Changed.l0]
    rw [if_neg (by omega)]
    unfold changed
    rw [idx_none a x fun j h => hn j h (by omega), if_neg (by omega)]
  | succ d ih =>
    intro k i hi hk hn
    obtain ⟨k, rfl⟩ : ∃ q, k = q + 1 := ⟨k - 1, by omega⟩
    simp only [casketref11_Changed.l0]
    rw [if_pos (by omega), if_pos (by omega), rdOf_at a i (by omega)]
    by_cases e : a[i]'(by omega) = x
    · rw [if_pos (by rw [e]), if_pos (by omega), rdOf_at b i (by omega)]
      unfold changed
      rw [idx_at a x i (by omega) e hn, if_pos (by omega), Int.toNat_natCast, List.getD_eq_getElem?_getD, List.getElem?_eq_getElem (by omega)]
      rfl
    · rw [if_neg (fun h => e (list_inj h)), w_id (by omega) (by omega), show (i : Int) + 1 = ((i + 1 : Nat) : Int) by omega]
      refine ih k (i + 1) (by omega) (by omega) fun j h hj => ?_
      by_cases e2 : j = i
      · subst e2; exact e
      · exact hn j h (by omega)
theorem map_l0 (a b L : List ByteArray) (hl : a.length = b.length) (hm : a.length ≤ 9223372036854775000) (hL : L.length ≤ 16) (d : Nat) : ∀ (k i : Nat), i + d = L.length → d + a.length + 200 < k →
    casketref11_Map.l0 k a b L ((L.take i).map (changed a b)) i = path_Text.f (L.map (changed a b)) := by
  induction d with
  | zero =>
    intro k i hi hk
    obtain ⟨k, rfl⟩ : ∃ q, k = q + 1 := ⟨k - 1, by omega⟩
    simp only [casketref11_Map.l0]
    rw [if_neg (by omega), List.take_of_length_le (by omega), ref_text _ (by simp; omega) k (by simp; omega), path_text]
    rfl
  | succ d ih =>
    intro k i hi hk
    obtain ⟨k, rfl⟩ : ∃ q, k = q + 1 := ⟨k - 1, by omega⟩
    simp only [casketref11_Map.l0]
    rw [if_pos (by omega), if_pos (by omega), rdOf_at L i (by omega)]
    unfold casketref11_Changed.f
    rw [show (0 : Int) = ((0 : Nat) : Int) from rfl, changed_l0 _ a b hl hm a.length k 0 (by omega) (by omega) (fun j h hj => absurd hj (by omega)), Option.bind_some,
      if_pos (by rw [List.length_map, List.length_take]; omega), w_id (by omega) (by omega), show (i : Int) + 1 = ((i + 1 : Nat) : Int) by omega, ← ih k (i + 1) (by omega) (by omega),
      List.take_add_one, List.getElem?_eq_getElem (by omega), List.map_append]
    rfl
theorem ref_map (s : ByteArray) (a b : List ByteArray) (hz : s.size ≤ 140737488351232) (hm : a.length ≤ 9223372036854775000) (k : Nat) (hk : 20000 + a.length ≤ k) : casketref11_Map.f k s a b = path_Map.f s a b := by
  unfold casketref11_Map.f path_Map.f
  rw [ref_parse s hz k (by omega)]
  obtain ⟨⟨L, e⟩, h⟩ : ∃ t, path_Parse.f s = some t := ⟨_, rfl⟩
  have hlen := parse_len s L e h
  rw [h, Option.bind_some, Option.bind_some]
  by_cases he : e = 0
  · rw [if_pos he, if_pos he]
    by_cases hl : a.length = b.length
    · rw [if_pos (by omega), if_pos hl]
      exact map_l0 a b L hl hm hlen L.length k 0 (by omega) (by omega)
    · rw [if_neg (by omega), if_neg hl]
  · rw [if_neg he, if_neg he]
theorem map_some (s : ByteArray) (a b : List ByteArray) : ∃ t, path_Map.f s a b = some t := by
  unfold path_Map.f
  obtain ⟨⟨L, e⟩, h⟩ : ∃ t, path_Parse.f s = some t := ⟨_, rfl⟩
  rw [h, Option.bind_some]
  by_cases he : e = 0
  · rw [if_pos he]
    by_cases hl : a.length = b.length
    · rw [if_pos hl, text_of]
      exact ⟨_, rfl⟩
    · rw [if_neg hl]
      exact ⟨_, rfl⟩
  · rw [if_neg he]
    exact ⟨_, rfl⟩
theorem roomy_f (l : List ByteArray) (h : l.length * 16 ≤ 140737488351232) : casketlaw11_roomy.f l = some (l ++ marks) := if_pos h
/-- The pure statement: for EVERY input there is fuel at which the printed law answers true. -/
theorem PathMaps : SayPathMaps := by
  intro s a b hs ha hb
  refine ⟨20000 + a.length + b.length + 100000, ?_⟩
  generalize hk : 20000 + a.length + b.length + 100000 = k
  have hmk : marks.length ≤ 100 := by decide
  obtain ⟨⟨t1, t2⟩, ht⟩ := map_some s a b
  unfold casketlaw11_PathMaps.f
  rw [roomy_f a ha.1, Option.bind_some, roomy_f b hb.1, Option.bind_some, if_pos (by omega), if_pos (by rw [List.length_append]; omega), if_pos (by omega), if_pos (by rw [List.length_append]; omega),
    Int.toNat_natCast, Int.toNat_natCast, List.take_left, List.take_left, ref_map s a b hs (by omega) k (by omega), ht, Option.bind_some, Option.bind_some, if_pos rfl]
  unfold casketlaw11_num.f
  rw [Option.bind_some, if_pos rfl, Option.bind_some, same_f _ _ (by rw [List.length_append]; omega) k (by rw [List.length_append]; omega), Option.bind_some, decide_eq_true rfl, if_pos rfl, Option.bind_some,
    same_f _ _ (by rw [List.length_append]; omega) k (by rw [List.length_append]; omega), Option.bind_some, decide_eq_true rfl]
end Go.Proofs.YtecfnngbomnnjaaDoor.Pure
