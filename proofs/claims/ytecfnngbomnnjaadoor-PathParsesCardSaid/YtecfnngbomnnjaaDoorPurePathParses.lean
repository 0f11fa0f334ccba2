/- casketlaw11.PathParses returns true for every input: Parse of any text is the document's. The card: the two tables of unicode/utf8 that the row lists hold what the library's text lays. -/
import Derived.Test.YtecfnngbomnnjaaDoorKitE
import Derived.Test.YtecfnngbomnnjaaDoorSayPathParses
namespace Go.Proofs.YtecfnngbomnnjaaDoor.Pure
open Go.RowKit Go.Proofs.YtecfnngbomnnjaaDoor.PAll Go.Proofs.YtecfnngbomnnjaaDoor.G Go.Proofs.YtecfnngbomnnjaaDoor.Kit Go.Proofs.YtecfnngbomnnjaaDoor.Open Go.Proofs.YtecfnngbomnnjaaDoor.Say Go.Proofs.YtecfnngbomnnjaaDoorW.PrintWords Go.Proofs.YtecfnngbomnnjaaDoorW.PrintLast Go.Proofs.YtecfnngbomnnjaaDoorW.PrintMore
set_option linter.unusedVariables false

theorem parse_small (s : ByteArray) (L : List ByteArray) (e : Int) (h : path_Parse.f s = some (L, e)) : L.length ≤ 2000 := by
  by_cases he : e = 0
  · subst he
    obtain ⟨h1, _, _⟩ := parse_text s L h
    have := (err0 L h1).2
    omega
  · rw [parse_err s L e h he]
    decide
theorem PathParses : SayPathParses := by
  intro a0 h0
  refine ⟨30000, ?_⟩
  unfold casketlaw11_PathParses.f
  rw [ref_parse a0 h0 30000 (by omega)]
  obtain ⟨⟨L, e⟩, hp⟩ : ∃ p, path_Parse.f a0 = some p := ⟨_, rfl⟩
  have := parse_small a0 L e hp
  rw [hp, Option.bind_some, Option.bind_some, same_f L L (by omega) 30000 (by omega), decide_eq_true rfl]
  simp only [Option.bind_some, if_true, casketlaw11_num.f]
  simp

end Go.Proofs.YtecfnngbomnnjaaDoor.Pure
