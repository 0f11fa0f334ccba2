/-
  DERIVED. GIVEN WITH THE SEED: THE CARDS: each row of YtcoohckdnefacaaDoorRows.lean that lists a variable, with what it lists TIED to the program's text (the seventh form; the later family's looks); each row that meets fmt, with fmt's text TOLD by the authors' own Lean function (tested against real Go, not proved from fmt's source: count such statements apart). THE CARD IS WHAT COUNTS. Prove the row's statement (the work); the ties are given (YtcoohckdnefacaaDoorTie.lean); close each card by the builder's one call (the guide's Derived/Test/ToyasCard.lean, 'card_holds'). Laid BY PROGRAM, IN A SANDBOX (cutbox-door.mjs). By AI agents, Wed Nov 11 2026. No macro, syntax, notation, axiom, sorry.
-/
import Derived.Test.YtcoohckdnefacaaDoorRows
import GoSem.ClaimSeven
namespace Go.Proofs.YtcoohckdnefacaaDoor
namespace Rows

/-- THE TIED CARD OF 'casketlaw16.ExecApplies'. -/
def execAppliesCard : Claim7 := { stood := { row := execAppliesRow, standIns := [], harness := (true, "68fec71c3e6f791617ad1e536950837e8d4f266e2c3e08f67771ba95c8ae8e66"), looks := false }, kinds := [], alts := [], laidByText := true, laidKinds := [.data, .data, .data], laidTests := true, laidLooks := .later }
def ExecAppliesCardSaid : Prop := Claim7.holds Tryd.pinned (.plain (OpenSpec.ofChange execAppliesSpec)) execAppliesCard

/-- THE SECOND FORM's CARD OF 'casketlaw16.ExecApplies'. -/
def execAppliesUptoCard : Claim7 := { stood := { row := execAppliesUptoRow, standIns := [], harness := (true, "68fec71c3e6f791617ad1e536950837e8d4f266e2c3e08f67771ba95c8ae8e66"), looks := false }, kinds := [], alts := [], laidByText := true, laidKinds := [.data, .data, .data], laidTests := true, laidLooks := .later }
def ExecAppliesUptoCardSaid : Prop := Claim7.holds Tryd.pinned (.plain (OpenSpec.upto execAppliesSpec)) execAppliesUptoCard
end Rows
end Go.Proofs.YtcoohckdnefacaaDoor
