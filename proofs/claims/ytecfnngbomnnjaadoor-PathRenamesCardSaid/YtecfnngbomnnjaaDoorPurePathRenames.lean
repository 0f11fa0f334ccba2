/- casketlaw11.PathRenames returns true for every input: a table that keeps names apart is undone by its reverse. The card: the two tables of unicode/utf8 that the row lists hold what the library's text lays. -/
import Derived.Test.YtecfnngbomnnjaaDoorKitE
import Derived.Test.YtecfnngbomnnjaaDoorSayPathRenames
namespace Go.Proofs.YtecfnngbomnnjaaDoor.Pure
open Go.RowKit Go.Proofs.YtecfnngbomnnjaaDoor.G Go.Proofs.YtecfnngbomnnjaaDoor.Kit Go.Proofs.YtecfnngbomnnjaaDoor.Open Go.Proofs.YtecfnngbomnnjaaDoor.Say Go.Proofs.YtecfnngbomnnjaaDoorW.PrintWords Go.Proofs.YtecfnngbomnnjaaDoorW.PrintLast Go.Proofs.YtecfnngbomnnjaaDoorW.PrintMore
open Go.Proofs.YtecfnngbomnnjaaDoor
set_option linter.unusedVariables false

theorem same_l0_eq : ∀ (k : Nat) (a b : List ByteArray) (i : Int), PRen.casketlaw11_same.l0 k a b i = PAll.casketlaw11_same.l0 k a b i
  | 0, _, _, _ => rfl
  | k + 1, a, b, i => by simp only [PRen.casketlaw11_same.l0, PAll.casketlaw11_same.l0, same_l0_eq k]
theorem same_eq (k : Nat) (a b : List ByteArray) : PRen.casketlaw11_same.f k a b = PAll.casketlaw11_same.f k a b := by
  unfold PRen.casketlaw11_same.f PAll.casketlaw11_same.f
  rw [same_l0_eq]
theorem works_r (k : Nat) (hk : 10 ≤ k) : PRen.casketlaw11_works.f k = some true := by
  rw [← works_f k hk]
  unfold PRen.casketlaw11_works.f PAll.casketlaw11_works.f
  simp only [same_eq]
  rfl
open Go.Proofs.YtecfnngbomnnjaaDoor.PRen
theorem in_l0 (l : List ByteArray) (s : ByteArray) (hm : l.length ≤ 9223372036854775000) (d : Nat) : ∀ (k i : Nat), i + d = l.length → d < k → ∃ r, casketlaw11_in.l0 k l s i = some r ∧ (r = true → s ∈ l) := by
  induction d with
  | zero =>
    intro k i hi hk
    obtain ⟨k, rfl⟩ : ∃ q, k = q + 1 := ⟨k - 1, by omega⟩
    simp only [casketlaw11_in.l0]
    rw [if_neg (by omega)]
    exact ⟨_, rfl, by simp⟩
  | succ d ih =>
    intro k i hi hk
    obtain ⟨k, rfl⟩ : ∃ q, k = q + 1 := ⟨k - 1, by omega⟩
    simp only [casketlaw11_in.l0]
    rw [if_pos (by omega), if_pos (by omega), rdOf_at l i (by omega)]
    by_cases e : (l[i]'(by omega)).toList = s.toList
    · rw [if_pos e]
      exact ⟨_, rfl, fun _ => by rw [← list_inj e]; exact List.getElem_mem _⟩
    · rw [if_neg e, w_id (by omega) (by omega), show (i : Int) + 1 = ((i + 1 : Nat) : Int) by omega]
      exact ih k (i + 1) (by omega) (by omega)
/-- Row i of the table stands apart. -/
def Rw (f t l : List ByteArray) (i : Nat) : Prop :=
  (∀ j (hi : i < f.length) (hj : j < f.length), i ≠ j → f[i] ≠ f[j]) ∧ (∀ j (hi : i < t.length) (hj : j < t.length), i ≠ j → t[i] ≠ t[j]) ∧ ∀ (hi : i < t.length), t[i] ∈ l → t[i] ∈ f
def Ap (f t l : List ByteArray) : Prop := ∀ i, i < f.length → Rw f t l i
theorem apart_l2 (f t l : List ByteArray) (hl : t.length = f.length) (hm : f.length ≤ 100000) (hm2 : l.length ≤ 100000) (i : Nat) (hi : i < f.length) (K : Nat)
    (tail : ∀ k, K < k → Rw f t l i → ∃ r, casketlaw11_apart.l0 k f t l ((i + 1 : Nat) : Int) = some r ∧ (r = true → Ap f t l))
    (h1 : ∀ j (hi : i < f.length) (hj : j < f.length), i ≠ j → f[i] ≠ f[j]) (h2 : ∀ j (hi : i < t.length) (hj : j < t.length), i ≠ j → t[i] ≠ t[j]) (d : Nat) :
    ∀ (k q : Nat), q + d = l.length → d + f.length + 5 + K < k → (∀ p (hp : p < l.length), p < q → ∀ (hi : i < t.length), t[i] = l[p] → t[i] ∈ f) →
      ∃ r, casketlaw11_apart.l2 k f t l i q = some r ∧ (r = true → Ap f t l) := by
  induction d with
  | zero =>
    intro k q hq hk hp
    obtain ⟨k, rfl⟩ : ∃ z, k = z + 1 := ⟨k - 1, by omega⟩
    simp only [casketlaw11_apart.l2]
    rw [if_neg (by omega), w_id (by omega) (by omega), show (i : Int) + 1 = ((i + 1 : Nat) : Int) by omega]
    refine tail k (by omega) ⟨h1, h2, fun hi hin => ?_⟩
    obtain ⟨p, hp1, hp2⟩ := List.getElem_of_mem hin
    exact hp p hp1 (by omega) hi hp2.symm
  | succ d ih =>
    intro k q hq hk hp
    obtain ⟨k, rfl⟩ : ∃ z, k = z + 1 := ⟨k - 1, by omega⟩
    simp only [casketlaw11_apart.l2]
    rw [if_pos (by omega), if_pos (by omega), if_pos (by omega), if_pos (by omega), rdOf_at t i (by omega), rdOf_at l q (by omega), w_id (by omega) (by omega), show (q : Int) + 1 = ((q + 1 : Nat) : Int) by omega]
    by_cases e : (t[i]'(by omega)).toList = (l[q]'(by omega)).toList
    · rw [if_pos e]
      unfold casketlaw11_in.f
      obtain ⟨r, hr, hr2⟩ := in_l0 f (l[q]'(by omega)) (by omega) f.length k 0 (by omega) (by omega)
      rw [show ((0 : Nat) : Int) = 0 from rfl] at hr
      rw [hr, Option.bind_some]
      by_cases hrt : r = true
      · rw [if_pos hrt]
        refine ih k (q + 1) (by omega) (by omega) fun p hpl hpq hi heq => ?_
        by_cases e2 : p = q
        · subst e2
          rw [heq]
          exact hr2 hrt
        · exact hp p hpl (by omega) hi heq
      · rw [if_neg hrt]
        exact ⟨_, rfl, by simp⟩
    · rw [if_neg e]
      refine ih k (q + 1) (by omega) (by omega) fun p hpl hpq hi heq => ?_
      by_cases e2 : p = q
      · subst e2
        exact absurd (by rw [heq]) e
      · exact hp p hpl (by omega) hi heq
theorem apart_l1 (f t l : List ByteArray) (hl : t.length = f.length) (hm : f.length ≤ 100000) (hm2 : l.length ≤ 100000) (i : Nat) (hi : i < f.length) (K : Nat)
    (tail : ∀ k, K < k → Rw f t l i → ∃ r, casketlaw11_apart.l0 k f t l ((i + 1 : Nat) : Int) = some r ∧ (r = true → Ap f t l)) (d : Nat) :
    ∀ (k j : Nat), j + d = f.length → d + l.length + f.length + 9 + K < k → (∀ p (hp : p < f.length), p < j → i ≠ p → f[i] ≠ f[p]) → (∀ p (hp : p < t.length), p < j → i ≠ p → t[i]'(by omega) ≠ t[p]) →
      ∃ r, casketlaw11_apart.l1 k f t l i j = some r ∧ (r = true → Ap f t l) := by
  induction d with
  | zero =>
    intro k j hj hk h1 h2
    obtain ⟨k, rfl⟩ : ∃ z, k = z + 1 := ⟨k - 1, by omega⟩
    simp only [casketlaw11_apart.l1]
    rw [if_neg (by omega), show (0 : Int) = ((0 : Nat) : Int) from rfl]
    exact apart_l2 f t l hl hm hm2 i hi K tail (fun p _ hp hne => h1 p hp (by omega) hne) (fun p _ hp hne => h2 p hp (by omega) hne) l.length k 0 (by omega) (by omega) (fun p hp hlt => absurd hlt (by omega))
  | succ d ih =>
    intro k j hj hk h1 h2
    obtain ⟨k, rfl⟩ : ∃ z, k = z + 1 := ⟨k - 1, by omega⟩
    simp only [casketlaw11_apart.l1]
    rw [if_pos (by omega), w_id (by omega) (by omega), show (j : Int) + 1 = ((j + 1 : Nat) : Int) by omega]
    by_cases e : i = j
    · rw [if_pos (by omega)]
      exact ih k (j + 1) (by omega) (by omega) (fun p hp hlt hne => h1 p hp (by omega) hne) (fun p hp hlt hne => h2 p hp (by omega) hne)
    · rw [if_neg (by omega), if_pos (by omega), if_pos (by omega), if_pos (by omega), rdOf_at f i (by omega), rdOf_at f j (by omega), rdOf_at t i (by omega), rdOf_at t j (by omega)]
      by_cases e1 : (f[i]'(by omega)).toList = (f[j]'(by omega)).toList
      · rw [if_pos e1]
        exact ⟨_, rfl, by simp⟩
      · rw [if_neg e1, if_pos (by omega), if_pos (by omega)]
        by_cases e2 : (t[i]'(by omega)).toList = (t[j]'(by omega)).toList
        · rw [if_pos e2]
          exact ⟨_, rfl, by simp⟩
        · rw [if_neg e2]
          refine ih k (j + 1) (by omega) (by omega) (fun p hp hlt hne => ?_) (fun p hp hlt hne => ?_)
          · by_cases e3 : p = j
            · subst e3
              exact fun h => e1 (by rw [h])
            · exact h1 p hp (by omega) hne
          · by_cases e3 : p = j
            · subst e3
              exact fun h => e2 (by rw [h])
            · exact h2 p hp (by omega) hne
theorem apart_l0 (f t l : List ByteArray) (hl : t.length = f.length) (hm : f.length ≤ 100000) (hm2 : l.length ≤ 100000) (C : Nat) (hC : f.length + l.length + f.length + 20 ≤ C) (d : Nat) :
    ∀ (k i : Nat), i + d = f.length → d * C < k → (∀ p, p < i → Rw f t l p) → ∃ r, casketlaw11_apart.l0 k f t l i = some r ∧ (r = true → Ap f t l) := by
  induction d with
  | zero =>
    intro k i hi hk hp
    obtain ⟨k, rfl⟩ : ∃ z, k = z + 1 := ⟨k - 1, by omega⟩
    simp only [casketlaw11_apart.l0]
    rw [if_neg (by omega)]
    exact ⟨_, rfl, fun _ p h => hp p (by omega)⟩
  | succ d ih =>
    intro k i hi hk hp
    rw [Nat.succ_mul] at hk
    obtain ⟨k, rfl⟩ : ∃ z, k = z + 1 := ⟨k - 1, by omega⟩
    simp only [casketlaw11_apart.l0]
    rw [if_pos (by omega), show (0 : Int) = ((0 : Nat) : Int) from rfl]
    refine apart_l1 f t l hl hm hm2 i (by omega) (d * C) (fun k hk hr => ?_) f.length k 0 (by omega) (by omega) (fun p hp hlt => absurd hlt (by omega)) (fun p hp hlt => absurd hlt (by omega))
    refine ih k (i + 1) (by omega) hk fun p hlt => ?_
    by_cases e : p = i
    · subst e; exact hr
    · exact hp p (by omega)
theorem apart_f (f t l : List ByteArray) (hl : t.length = f.length) (hm : f.length ≤ 100) (hm2 : l.length ≤ 16) (k : Nat) (hk : 100000 ≤ k) : ∃ r, casketlaw11_apart.f k f t l = some r ∧ (r = true → Ap f t l) := by
  unfold casketlaw11_apart.f
  have := Nat.mul_le_mul hm (Nat.le_refl 300)
  exact apart_l0 f t l hl (by omega) (by omega) 300 (by omega) f.length k 0 (by omega) (by omega) fun p h => absurd h (by omega)
/-- A table that stands apart is undone by its reverse. -/
theorem back_at (f t l : List ByteArray) (hl : t.length = f.length) (h : Ap f t l) (x : ByteArray) (hx : x ∈ l) : changed t f (changed f t x) = x := by
  by_cases hin : x ∈ f
  · obtain ⟨i, hi, e⟩ := List.getElem_of_mem hin
    subst e
    have h1 : idx f f[i] = i := idx_at f f[i] i hi rfl fun j hj hji => (h j hj).1 i hj hi (by omega)
    have e1 : changed f t f[i] = t[i]'(by omega) := by
      unfold changed
      rw [h1, if_pos (by omega), Int.toNat_natCast, List.getD_eq_getElem?_getD, List.getElem?_eq_getElem (by omega)]
      rfl
    have h2 : idx t (t[i]'(by omega)) = i := idx_at t (t[i]'(by omega)) i (by omega) rfl fun j hj hji => (h j (by omega)).2.1 i hj (by omega) (by omega)
    rw [e1]
    unfold changed
    rw [h2, if_pos (by omega), Int.toNat_natCast, List.getD_eq_getElem?_getD, List.getElem?_eq_getElem (by omega)]
    rfl
  · have e1 : changed f t x = x := by
      unfold changed
      rw [idx_none f x fun j hj e => hin (by rw [← e]; exact List.getElem_mem _), if_neg (by omega)]
    rw [e1]
    unfold changed
    rw [idx_none t x fun j hj e => hin (by
      have := (h j (by omega)).2.2 hj (by rw [e]; exact hx)
      rw [e] at this
      exact this), if_neg (by omega)]
theorem back_map (f t l : List ByteArray) (hl : t.length = f.length) (h : Ap f t l) : (l.map (changed f t)).map (changed t f) = l := by
  rw [List.map_map]
  conv => rhs; rw [← List.map_id l]
  exact List.map_congr_left fun x hx => back_at f t l hl h x hx
theorem map_of (s : ByteArray) (L : List ByteArray) (f t : List ByteArray) (h : path_Parse.f s = some (L, 0)) (hl : f.length = t.length) : path_Map.f s f t = path_Text.f (L.map (changed f t)) := by
  unfold path_Map.f
  rw [h, Option.bind_some, if_pos rfl, if_pos hl]
theorem text_ok (L : List ByteArray) (s : ByteArray) (h : path_Text.f L = some (s, 0)) : errOf L = 0 ∧ s = textS L := by
  rw [text_of] at h
  by_cases e : errOf L = 0
  · rw [if_pos e] at h
    simp only [Option.some.injEq, Prod.mk.injEq] at h
    exact ⟨e, h.1.symm⟩
  · rw [if_neg e] at h
    simp only [Option.some.injEq, Prod.mk.injEq] at h
    exact absurd h.2 e
theorem inside_back (f t a b : List ByteArray) (hl : t.length = f.length) (ha : Ap f t a) (hb : Ap f t b) : insideB (a.map (changed f t)) (b.map (changed f t)) = insideB a b := by
  unfold insideB
  congr 1
  · simp
  · rw [Bool.eq_iff_iff, decide_eq_true_iff, decide_eq_true_iff]
    constructor
    · intro h
      have := congrArg (List.map (changed t f)) h
      rw [back_map f t a hl ha, List.map_take, back_map f t b hl hb, List.length_map] at this
      exact this
    · intro h
      rw [List.length_map, ← List.map_take, ← h]
/-- The pure statement: for EVERY input there is fuel at which the printed law answers true. -/
theorem PathRenames : SayPathRenames := by
  intro one two f t h1 h2 hf ht
  refine ⟨200004, ?_⟩
  obtain ⟨⟨a, e⟩, ha⟩ : ∃ q, path_Parse.f one = some q := ⟨_, rfl⟩
  obtain ⟨⟨b, g⟩, hb⟩ : ∃ q, path_Parse.f two = some q := ⟨_, rfl⟩
  have hla := parse_len _ _ _ ha
  have hlb := parse_len _ _ _ hb
  have W : ∀ k, 10 ≤ k → ((casketlaw11_works.f k).bind fun q => some q) = some true := fun k hk => by rw [works_r k hk]; rfl
  have J0 : ∀ k, 10 ≤ k → casketlaw11_PathRenames.j0 (k + 1) one two f t a b true = some true := fun k hk => by
    simp only [casketlaw11_PathRenames.j0]
    rw [if_pos trivial, W k hk]
  have J1 : ∀ k, 10 ≤ k → casketlaw11_PathRenames.j1 (k + 1) one two f t a b true = some true := fun k hk => by
    simp only [casketlaw11_PathRenames.j1]
    rw [if_pos trivial, W k hk]
  have J2 : ∀ k s q, 10 ≤ k → casketlaw11_PathRenames.j2 (k + 1) one two f t a b s q true = some true := fun k s q hk => by
    simp only [casketlaw11_PathRenames.j2]
    rw [if_pos trivial, W k hk]
  unfold casketlaw11_PathRenames.f
  rw [ha, Option.bind_some, hb, Option.bind_some]
  unfold casketlaw11_num.f
  rw [Option.bind_some]
  by_cases he : e = 0
  rotate_left
  · rw [if_neg he]; exact J0 200003 (by omega)
  rw [if_pos he, Option.bind_some]
  by_cases hg : g = 0
  rotate_left
  · rw [if_neg hg]; exact J0 200003 (by omega)
  rw [if_pos hg]
  subst he hg
  by_cases hl : (f.length : Int) = (t.length : Int)
  rotate_left
  · rw [if_neg hl]; exact J0 200003 (by omega)
  rw [if_pos hl]
  by_cases hn : (f.length : Int) > 100
  · rw [decide_eq_true hn]; exact J0 200003 (by omega)
  rw [decide_eq_false hn]
  have hl' : t.length = f.length := by omega
  rw [show (200004 : Nat) = 200003 + 1 from rfl]
  simp only [casketlaw11_PathRenames.j0]
  rw [if_neg (by simp)]
  obtain ⟨r1, e1, k1⟩ := apart_f f t a hl' (by omega) hla 200003 (by omega)
  obtain ⟨r2, e2, k2⟩ := apart_f f t b hl' (by omega) hlb 200003 (by omega)
  rw [e1, Option.bind_some]
  cases r1
  · rw [if_neg (by simp)]; exact J1 200002 (by omega)
  rw [if_pos rfl, e2, Option.bind_some]
  cases r2
  · exact J1 200002 (by omega)
  have ka := k1 rfl
  have kb := k2 rfl
  rw [show (200003 : Nat) = 200002 + 1 from rfl, Bool.not_true]
  simp only [casketlaw11_PathRenames.j1]
  rw [if_neg (by simp), List.nil_append, List.nil_append, if_pos (by simp; omega), if_pos (by simp; omega)]
  rw [map_of one a f t ha (by omega), map_of two b f t hb (by omega)]
  obtain ⟨⟨s, p1⟩, q1⟩ : ∃ q, path_Text.f (a.map (changed f t)) = some q := ⟨_, text_of _⟩
  obtain ⟨⟨u, p2⟩, q2⟩ : ∃ q, path_Text.f (b.map (changed f t)) = some q := ⟨_, text_of _⟩
  rw [q1, Option.bind_some, q2, Option.bind_some]
  unfold casketlaw11_num.f
  rw [Option.bind_some]
  by_cases z1 : p1 = 0
  rotate_left
  · rw [if_neg z1]; exact J2 200001 _ _ (by omega)
  rw [if_pos z1, Option.bind_some]
  by_cases z2 : p2 = 0
  rotate_left
  · rw [bne_iff_ne.2 z2]; exact J2 200001 _ _ (by omega)
  subst z1 z2
  rw [show ((0 : Int) != 0) = false from rfl, show (200002 : Nat) = 200001 + 1 from rfl]
  obtain ⟨x1, rfl⟩ := text_ok _ _ q1
  obtain ⟨x2, rfl⟩ := text_ok _ _ q2
  have ps := text_parse _ x1
  have pu := text_parse _ x2
  simp only [casketlaw11_PathRenames.j2]
  rw [if_neg (by simp), List.nil_append, List.nil_append, if_pos (by simp; omega), if_pos (by simp; omega), map_of _ _ t f ps (by omega), back_map f t a hl' ka]
  obtain ⟨y1, y2, _⟩ := parse_text one a ha
  obtain ⟨y3, y4, _⟩ := parse_text two b hb
  rw [text_of, y1, if_pos rfl, Option.bind_some, ps, Option.bind_some, pu, Option.bind_some]
  unfold casketlaw11_num.f
  rw [Option.bind_some, if_pos rfl, Option.bind_some, if_pos rfl, Option.bind_some, if_pos rfl, y2, bne_self_eq_false, show (200001 : Nat) = 200000 + 1 from rfl]
  simp only [casketlaw11_PathRenames.j3]
  rw [if_neg (by simp)]
  unfold path_Inside.f
  rw [Option.bind_some, Option.bind_some, inside_back f t a b hl' ka kb, if_pos (by simp), Option.bind_some, Option.bind_some, inside_back f t b a hl' kb ka, if_pos (by simp)]
  have hst : ((textS (a.map (changed f t))).toList == (textS (b.map (changed f t))).toList) = (one.toList == two.toList) := by
    rw [Bool.eq_iff_iff, beq_iff_eq, beq_iff_eq]
    constructor
    · intro h
      have h := list_inj h
      have e3 : a.map (changed f t) = b.map (changed f t) := by
        rw [h, pu] at ps
        simpa using ps.symm
      have e4 := congrArg (List.map (changed t f)) e3
      rw [back_map f t a hl' ka, back_map f t b hl' kb] at e4
      rw [← y2, ← y4, e4]
    · intro h
      have h := list_inj h
      rw [h, hb] at ha
      have : b = a := by simpa using ha
      rw [this]
  rw [hst, if_pos (by simp), W _ (by omega)]
end Go.Proofs.YtecfnngbomnnjaaDoor.Pure
