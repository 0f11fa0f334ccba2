/-
  DERIVED. GIVEN WITH THE SEED: THE CARDS: each row of YtecfnngbomnnjaaDoorRows.lean that lists a variable, with what it lists TIED to the program's text (the seventh form; the later family's looks); each row that meets fmt, with fmt's text TOLD by the authors' own Lean function (tested against real Go, not proved from fmt's source: count such statements apart). THE CARD IS WHAT COUNTS. Prove the row's statement (the work); the ties are given (YtecfnngbomnnjaaDoorTie.lean); close each card by the builder's one call (the guide's Derived/Test/ToyasCard.lean, 'card_holds'). Laid BY PROGRAM, IN A SANDBOX (cutbox-door.mjs). By AI agents, Wed Nov 11 2026. No macro, syntax, notation, axiom, sorry.
-/
import Derived.Test.YtecfnngbomnnjaaDoorRows
import GoSem.ClaimSeven
namespace Go.Proofs.YtecfnngbomnnjaaDoor
namespace Rows

/-- THE TIED CARD OF 'casketlaw11.PathParses'. -/
def pathParsesCard : Claim7 := { stood := { row := pathParsesRow, standIns := [], harness := (true, "6be47bd9ffe8bac2a5001bab6c0c13f30982bb023efdfc3b7dd5518eb2c1e03d"), looks := false }, kinds := [], alts := [], laidByText := true, laidKinds := [.data, .pinned], laidTests := true, laidLooks := .later }
def PathParsesCardSaid : Prop := Claim7.holds Tryd.pinned (.plain (OpenSpec.ofChange pathParsesSpec)) pathParsesCard

/-- THE TIED CARD OF 'casketlaw11.PathBack'. -/
def pathBackCard : Claim7 := { stood := { row := pathBackRow, standIns := [], harness := (true, "6be47bd9ffe8bac2a5001bab6c0c13f30982bb023efdfc3b7dd5518eb2c1e03d"), looks := false }, kinds := [], alts := [], laidByText := true, laidKinds := [.data, .pinned], laidTests := true, laidLooks := .later }
def PathBackCardSaid : Prop := Claim7.holds Tryd.pinned (.plain (OpenSpec.ofChange pathBackSpec)) pathBackCard

/-- THE TIED CARD OF 'casketlaw11.PathJoins'. -/
def pathJoinsCard : Claim7 := { stood := { row := pathJoinsRow, standIns := [], harness := (true, "6be47bd9ffe8bac2a5001bab6c0c13f30982bb023efdfc3b7dd5518eb2c1e03d"), looks := false }, kinds := [], alts := [], laidByText := true, laidKinds := [.data, .pinned], laidTests := true, laidLooks := .later }
def PathJoinsCardSaid : Prop := Claim7.holds Tryd.pinned (.plain (OpenSpec.ofChange pathJoinsSpec)) pathJoinsCard

/-- THE TIED CARD OF 'casketlaw11.PathMaps'. -/
def pathMapsCard : Claim7 := { stood := { row := pathMapsRow, standIns := [], harness := (true, "6be47bd9ffe8bac2a5001bab6c0c13f30982bb023efdfc3b7dd5518eb2c1e03d"), looks := false }, kinds := [], alts := [], laidByText := true, laidKinds := [.data, .pinned], laidTests := true, laidLooks := .later }
def PathMapsCardSaid : Prop := Claim7.holds Tryd.pinned (.plain (OpenSpec.ofChange pathMapsSpec)) pathMapsCard

/-- THE TIED CARD OF 'casketlaw11.PathRenames'. -/
def pathRenamesCard : Claim7 := { stood := { row := pathRenamesRow, standIns := [], harness := (true, "6be47bd9ffe8bac2a5001bab6c0c13f30982bb023efdfc3b7dd5518eb2c1e03d"), looks := false }, kinds := [], alts := [], laidByText := true, laidKinds := [.data, .pinned], laidTests := true, laidLooks := .later }
def PathRenamesCardSaid : Prop := Claim7.holds Tryd.pinned (.plain (OpenSpec.ofChange pathRenamesSpec)) pathRenamesCard

/-- THE TIED CARD OF 'casketlaw11.PathOwn'. -/
def pathOwnCard : Claim7 := { stood := { row := pathOwnRow, standIns := [], harness := (true, "6be47bd9ffe8bac2a5001bab6c0c13f30982bb023efdfc3b7dd5518eb2c1e03d"), looks := false }, kinds := [], alts := [], laidByText := true, laidKinds := [.data, .pinned], laidTests := true, laidLooks := .later }
def PathOwnCardSaid : Prop := Claim7.holds Tryd.pinned (.plain (OpenSpec.ofChange pathOwnSpec)) pathOwnCard

/-- THE SECOND FORM's CARD OF 'casketlaw11.PathParses'. -/
def pathParsesUptoCard : Claim7 := { stood := { row := pathParsesUptoRow, standIns := [], harness := (true, "6be47bd9ffe8bac2a5001bab6c0c13f30982bb023efdfc3b7dd5518eb2c1e03d"), looks := false }, kinds := [], alts := [], laidByText := true, laidKinds := [.data, .pinned], laidTests := true, laidLooks := .later }
def PathParsesUptoCardSaid : Prop := Claim7.holds Tryd.pinned (.plain (OpenSpec.upto pathParsesSpec)) pathParsesUptoCard

/-- THE SECOND FORM's CARD OF 'casketlaw11.PathBack'. -/
def pathBackUptoCard : Claim7 := { stood := { row := pathBackUptoRow, standIns := [], harness := (true, "6be47bd9ffe8bac2a5001bab6c0c13f30982bb023efdfc3b7dd5518eb2c1e03d"), looks := false }, kinds := [], alts := [], laidByText := true, laidKinds := [.data, .pinned], laidTests := true, laidLooks := .later }
def PathBackUptoCardSaid : Prop := Claim7.holds Tryd.pinned (.plain (OpenSpec.upto pathBackSpec)) pathBackUptoCard

/-- THE SECOND FORM's CARD OF 'casketlaw11.PathJoins'. -/
def pathJoinsUptoCard : Claim7 := { stood := { row := pathJoinsUptoRow, standIns := [], harness := (true, "6be47bd9ffe8bac2a5001bab6c0c13f30982bb023efdfc3b7dd5518eb2c1e03d"), looks := false }, kinds := [], alts := [], laidByText := true, laidKinds := [.data, .pinned], laidTests := true, laidLooks := .later }
def PathJoinsUptoCardSaid : Prop := Claim7.holds Tryd.pinned (.plain (OpenSpec.upto pathJoinsSpec)) pathJoinsUptoCard

/-- THE SECOND FORM's CARD OF 'casketlaw11.PathMaps'. -/
def pathMapsUptoCard : Claim7 := { stood := { row := pathMapsUptoRow, standIns := [], harness := (true, "6be47bd9ffe8bac2a5001bab6c0c13f30982bb023efdfc3b7dd5518eb2c1e03d"), looks := false }, kinds := [], alts := [], laidByText := true, laidKinds := [.data, .pinned], laidTests := true, laidLooks := .later }
def PathMapsUptoCardSaid : Prop := Claim7.holds Tryd.pinned (.plain (OpenSpec.upto pathMapsSpec)) pathMapsUptoCard

/-- THE SECOND FORM's CARD OF 'casketlaw11.PathRenames'. -/
def pathRenamesUptoCard : Claim7 := { stood := { row := pathRenamesUptoRow, standIns := [], harness := (true, "6be47bd9ffe8bac2a5001bab6c0c13f30982bb023efdfc3b7dd5518eb2c1e03d"), looks := false }, kinds := [], alts := [], laidByText := true, laidKinds := [.data, .pinned], laidTests := true, laidLooks := .later }
def PathRenamesUptoCardSaid : Prop := Claim7.holds Tryd.pinned (.plain (OpenSpec.upto pathRenamesSpec)) pathRenamesUptoCard

/-- THE SECOND FORM's CARD OF 'casketlaw11.PathOwn'. -/
def pathOwnUptoCard : Claim7 := { stood := { row := pathOwnUptoRow, standIns := [], harness := (true, "6be47bd9ffe8bac2a5001bab6c0c13f30982bb023efdfc3b7dd5518eb2c1e03d"), looks := false }, kinds := [], alts := [], laidByText := true, laidKinds := [.data, .pinned], laidTests := true, laidLooks := .later }
def PathOwnUptoCardSaid : Prop := Claim7.holds Tryd.pinned (.plain (OpenSpec.upto pathOwnSpec)) pathOwnUptoCard
end Rows
end Go.Proofs.YtecfnngbomnnjaaDoor
