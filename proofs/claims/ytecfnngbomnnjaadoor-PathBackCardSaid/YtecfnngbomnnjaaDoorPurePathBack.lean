/- casketlaw11.PathBack returns true for every input: there is one way to write a path: Text and Parse are each other's reverse. The card: the two tables of unicode/utf8 that the row lists hold what the library's text lays. -/
import Derived.Test.YtecfnngbomnnjaaDoorKitE
import Derived.Test.YtecfnngbomnnjaaDoorSayPathBack
namespace Go.Proofs.YtecfnngbomnnjaaDoor.Pure
open Go.RowKit Go.Proofs.YtecfnngbomnnjaaDoor.PAll Go.Proofs.YtecfnngbomnnjaaDoor.G Go.Proofs.YtecfnngbomnnjaaDoor.Kit Go.Proofs.YtecfnngbomnnjaaDoor.Open Go.Proofs.YtecfnngbomnnjaaDoor.Say Go.Proofs.YtecfnngbomnnjaaDoorW.PrintWords Go.Proofs.YtecfnngbomnnjaaDoorW.PrintLast Go.Proofs.YtecfnngbomnnjaaDoorW.PrintMore
set_option linter.unusedVariables false

theorem back_tail (l1 : List ByteArray) (hl : l1.length < 8796093022208) (k : Nat) (hk : l1.length + 20 ≤ k) :
    ((path_Text.f (([] : List ByteArray) ++ l1)).bind fun bt153 => ((casketlaw11_num.f bt153.2).bind fun t155 => (if t155 = 0 then ((path_Parse.f bt153.1).bind fun bt156 => ((casketlaw11_num.f bt156.2).bind fun t160 => (if t160 = 0 then ((casketlaw11_same.f k bt156.1 l1).bind fun t161 => (if t161 = true then ((casketlaw11_works.f k).bind fun t162 => (some t162)) else (some false))) else (some false)))) else (if bt153.1.toList = ([] : List UInt8) then ((casketlaw11_works.f k).bind fun t163 => (some t163)) else (some false))))) = some true := by
  rw [List.nil_append, text_of]
  by_cases he : errOf l1 = 0
  · rw [if_pos he, Option.bind_some]
    simp only [casketlaw11_num.f, Option.bind_some, if_true]
    rw [text_parse l1 he]
    simp only [Option.bind_some, if_true]
    rw [same_f _ _ (by omega) k (by omega), decide_eq_true rfl, Option.bind_some, if_pos rfl, works_f k (by omega)]
    rfl
  · rw [if_neg he, Option.bind_some]
    simp only [casketlaw11_num.f, Option.bind_some]
    rw [if_neg he, if_pos (by decide +kernel), works_f k (by omega)]
    rfl
theorem back_l0 (l1 L : List ByteArray) (hl : l1.length < 8796093022208) (hL : L.all nameB = true) (h16 : L.length ≤ 16) (d : Nat) : ∀ (k i : Nat), i + d = L.length → d + l1.length + 30 < k → casketlaw11_PathBack.l0 k l1 L i = some true := by
  induction d with
  | zero =>
    intro k i hi hk
    obtain ⟨k, rfl⟩ : ∃ q, k = q + 1 := ⟨k - 1, by omega⟩
    simp only [casketlaw11_PathBack.l0]
    rw [if_neg (by omega), if_pos (by simpa using hl)]
    exact back_tail l1 hl k (by omega)
  | succ d ih =>
    intro k i hi hk
    obtain ⟨k, rfl⟩ : ∃ q, k = q + 1 := ⟨k - 1, by omega⟩
    simp only [casketlaw11_PathBack.l0]
    rw [if_pos (by omega), if_pos (by omega), rdOf_at L i (by omega)]
    unfold path_Name.f
    rw [if_pos (List.all_eq_true.1 hL _ (List.getElem_mem _)), Option.bind_some]
    simp only [casketlaw11_num.f, Option.bind_some, if_true]
    rw [w_id (n := (i : Int) + 1) (by omega) (by omega), show (i : Int) + 1 = ((i + 1 : Nat) : Int) by omega]
    exact ih k (i + 1) (by omega) (by omega)
theorem PathBack : SayPathBack := by
  intro a0 l1 h0 h1
  have hl : l1.length < 8796093022208 := by have := h1.1; omega
  obtain ⟨K, hK⟩ : ∃ K, l1.length + 1000 ≤ K := ⟨_, Nat.le_refl _⟩
  refine ⟨K, ?_⟩
  unfold casketlaw11_PathBack.f
  obtain ⟨⟨L, e⟩, hp⟩ : ∃ p, path_Parse.f a0 = some p := ⟨_, rfl⟩
  rw [hp, Option.bind_some]
  simp only [casketlaw11_num.f, Option.bind_some]
  by_cases he : e = 0
  · subst he
    obtain ⟨g1, g2, g3⟩ := parse_text a0 L hp
    obtain ⟨ga, g16⟩ := err0 L g1
    rw [if_pos rfl, text_of, if_pos g1, Option.bind_some]
    simp only [if_true]
    rw [g2, if_pos rfl, if_neg (by omega)]
    exact back_l0 l1 L hl ga g16 L.length K 0 (by omega) (by omega)
  · rw [if_neg he, parse_err a0 L e hp he, if_pos (by decide), if_pos (by simpa using hl)]
    exact back_tail l1 hl K (by omega)

end Go.Proofs.YtecfnngbomnnjaaDoor.Pure
