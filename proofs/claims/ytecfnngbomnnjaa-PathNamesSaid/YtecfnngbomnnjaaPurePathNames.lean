/- casketlaw11.PathNames returns true for every input: Name of any text is the document's. -/
import Derived.Test.YtecfnngbomnnjaaKitP
namespace Go.Proofs.Ytecfnngbomnnjaa.Pure
open Go.RowKit Go.Proofs.Ytecfnngbomnnjaa.PAll Go.Proofs.Ytecfnngbomnnjaa.G Go.Proofs.Ytecfnngbomnnjaa.Kit Go.Proofs.YtecfnngbomnnjaaW.PrintWords Go.Proofs.YtecfnngbomnnjaaW.PrintLast Go.Proofs.YtecfnngbomnnjaaW.PrintMore
set_option linter.unusedVariables false

theorem PathNames : casketlaw11_PathNames.Pure := by
  intro a0 h0
  refine ⟨100, ?_⟩
  unfold casketlaw11_PathNames.f
  rw [ref_name a0 100 (by omega)]
  unfold path_Name.f
  simp only [Option.bind_some, casketlaw11_num.f]
  simp

end Go.Proofs.Ytecfnngbomnnjaa.Pure
