/-
  No cell of these rows narrows 'for every input' (looked for: loops, veiled, ifaces, maps, wideKeys, modest, calm, conditions, laid).
  DERIVED. THE GIVEN ROWS OF THIS SEAT. 4 by the template 'for every input the law returns true; each argument reads behind the call as it read before'; 0 by the template 'total and deterministic' (their statements: YtbmafpbjkeehaaaTotals.lean).
  GIVEN WITH THE SEED: the statements are not yours to turn. If you find one false, say at which input.
  Laid BY PROGRAM, IN A SANDBOX (cutbox-rows.mjs): the forced cells as the released guide's own fill.sh prints them over the translation c5ea1019b9ea79c2… (all of the seat's roots in one cut). By AI agents, Wed Nov 11 2026. No macro, syntax, notation, axiom, sorry.
-/
import Derived.Test.YtbmafpbjkeehaaaChecked
import GoSem.Claim
import GoSem.ClaimJoined
import GoSem.ClaimMapViews
import Derived.JoinedTies
import Derived.KernelRfl
namespace Go.Proofs.Ytbmafpbjkeehaaa
/- THE CELL 'sum', in the pinned program and in every row, IS THE sha256 OF THE DUMP (.gsa) THAT YtbmafpbjkeehaaaProg.lean LOADS. Nothing in Lean hashes anything: it is a label: what it is worth is what the hold of that sum in a sandbox is worth. -/
noncomputable def Try.pinned : Pinned := { name := "ytbmafpbjkeehaaa", sum := "c5ea1019b9ea79c2b1743460cecb0002e81955a561ce0acd47a29b78a87f0ff1", checked := Try.checked }
namespace Rows
def none {H : Type} : Left H := { results := [], args := [] }

/-- 'casketlaw10.WorldFuse': WHATEVER THE INPUT: true; the input reads as it did. -/
def worldFuseSpec : ChangeSpec := { name := "worldFuse", fn := fun _ => fun
  | [d1, d2] => { results := [.lit (.bool true)], args := [d1, d2] }
  | _ => none }
def worldFuseRow : OpenClaim := { program := "ytbmafpbjkeehaaa", sum := "c5ea1019b9ea79c2b1743460cecb0002e81955a561ce0acd47a29b78a87f0ff1", func := "casket/casketlaw10.WorldFuse", spec := "worldFuse", recurses := true, apart := false }
def WorldFuseSaid : Prop := worldFuseRow.holds Try.pinned (OpenSpec.ofChange worldFuseSpec)

/-- ITS FALSE NEIGHBOUR: 'it returns false'. Refute it at one input. -/
def worldFuseWrong : ChangeSpec := { name := "worldFuse", fn := fun _ => fun
  | [d1, d2] => { results := [.lit (.bool false)], args := [d1, d2] }
  | _ => none }
def WorldFuseWrongFalsely : Prop := worldFuseRow.holds Try.pinned (OpenSpec.ofChange worldFuseWrong)

/-- 'casketlaw10.WorldTold': WHATEVER THE INPUT: true; the input reads as it did. -/
def worldToldSpec : ChangeSpec := { name := "worldTold", fn := fun _ => fun
  | [d1, d2] => { results := [.lit (.bool true)], args := [d1, d2] }
  | _ => none }
def worldToldRow : OpenClaim := { program := "ytbmafpbjkeehaaa", sum := "c5ea1019b9ea79c2b1743460cecb0002e81955a561ce0acd47a29b78a87f0ff1", func := "casket/casketlaw10.WorldTold", spec := "worldTold", recurses := true, apart := false }
def WorldToldSaid : Prop := worldToldRow.holds Try.pinned (OpenSpec.ofChange worldToldSpec)

/-- ITS FALSE NEIGHBOUR: 'it returns false'. Refute it at one input. -/
def worldToldWrong : ChangeSpec := { name := "worldTold", fn := fun _ => fun
  | [d1, d2] => { results := [.lit (.bool false)], args := [d1, d2] }
  | _ => none }
def WorldToldWrongFalsely : Prop := worldToldRow.holds Try.pinned (OpenSpec.ofChange worldToldWrong)

/-- 'casketlaw10.WorldAdopts': WHATEVER THE INPUT: true; the input reads as it did. -/
def worldAdoptsSpec : ChangeSpec := { name := "worldAdopts", fn := fun _ => fun
  | [d1, d2] => { results := [.lit (.bool true)], args := [d1, d2] }
  | _ => none }
def worldAdoptsRow : OpenClaim := { program := "ytbmafpbjkeehaaa", sum := "c5ea1019b9ea79c2b1743460cecb0002e81955a561ce0acd47a29b78a87f0ff1", func := "casket/casketlaw10.WorldAdopts", spec := "worldAdopts", recurses := true, apart := false }
def WorldAdoptsSaid : Prop := worldAdoptsRow.holds Try.pinned (OpenSpec.ofChange worldAdoptsSpec)

/-- ITS FALSE NEIGHBOUR: 'it returns false'. Refute it at one input. -/
def worldAdoptsWrong : ChangeSpec := { name := "worldAdopts", fn := fun _ => fun
  | [d1, d2] => { results := [.lit (.bool false)], args := [d1, d2] }
  | _ => none }
def WorldAdoptsWrongFalsely : Prop := worldAdoptsRow.holds Try.pinned (OpenSpec.ofChange worldAdoptsWrong)

/-- 'casketlaw10.WorldEdits': WHATEVER THE INPUT: true; the input reads as it did. -/
def worldEditsSpec : ChangeSpec := { name := "worldEdits", fn := fun _ => fun
  | [d1, d2] => { results := [.lit (.bool true)], args := [d1, d2] }
  | _ => none }
def worldEditsRow : OpenClaim := { program := "ytbmafpbjkeehaaa", sum := "c5ea1019b9ea79c2b1743460cecb0002e81955a561ce0acd47a29b78a87f0ff1", func := "casket/casketlaw10.WorldEdits", spec := "worldEdits", recurses := true, apart := false }
def WorldEditsSaid : Prop := worldEditsRow.holds Try.pinned (OpenSpec.ofChange worldEditsSpec)

/-- ITS FALSE NEIGHBOUR: 'it returns false'. Refute it at one input. -/
def worldEditsWrong : ChangeSpec := { name := "worldEdits", fn := fun _ => fun
  | [d1, d2] => { results := [.lit (.bool false)], args := [d1, d2] }
  | _ => none }
def WorldEditsWrongFalsely : Prop := worldEditsRow.holds Try.pinned (OpenSpec.ofChange worldEditsWrong)

/- THE SECOND FORM. 'bulk': how many values and letters a reading holds, each counted each time it is reached (what is shared counts as often as it is met; a slice's spare places count too). A statement '..UptoSaid' is the law's where the arguments, and the package variables that the reading takes, are together of bulk at most 1048576: NARROWER than '..Said'. Prove '..Said' where nothing that the law and all that it calls make is longer than what came in: it says more and counts as full. Else prove '..UptoSaid'. A law counts once. -/
mutual
def uptoBulk {H : Type} : DataW H → Nat
  | .lit (.string bytes) => bytes.length + 1
  | .lit _ => 1
  | .nil => 1
  | .ptr d => uptoBulk d + 1
  | .slice elems spare => uptoBulkAll elems + uptoBulkAll spare + 1
  | .agg parts => uptoBulkAll parts + 1
  | .iface _ d => uptoBulk d + 1
  | .map entries => uptoBulkEntries entries + 1
  | .held _ => 1
def uptoBulkAll {H : Type} : List (DataW H) → Nat
  | [] => 0
  | d :: r => uptoBulk d + uptoBulkAll r
def uptoBulkEntries {H : Type} : List (Lit × DataW H) → Nat
  | [] => 0
  | x :: r => uptoBulkEntry x + uptoBulkEntries r
def uptoBulkEntry {H : Type} : Lit × DataW H → Nat
  | (.string bytes, d) => bytes.length + uptoBulk d + 1
  | (_, d) => uptoBulk d + 1
 end
def uptoSmall : (H : Type) → List (DataW H) → Bool := fun _ ds => decide (uptoBulkAll ds ≤ 1048576)
def OpenSpec.upto (s : _root_.Go.ChangeSpec) : _root_.Go.OpenSpec := { _root_.Go.OpenSpec.ofChange s with cond := some uptoSmall }

/-- 'casketlaw10.WorldFuse', WHERE WHAT IT READS IS OF BULK AT MOST 1048576: true; the input reads as it did. -/
def worldFuseUptoRow : OpenClaim := { program := "ytbmafpbjkeehaaa", sum := "c5ea1019b9ea79c2b1743460cecb0002e81955a561ce0acd47a29b78a87f0ff1", func := "casket/casketlaw10.WorldFuse", spec := "worldFuse", recurses := true, apart := false, narrowed := true }
def WorldFuseUptoSaid : Prop := worldFuseUptoRow.holds Try.pinned (OpenSpec.upto worldFuseSpec)

/-- 'casketlaw10.WorldTold', WHERE WHAT IT READS IS OF BULK AT MOST 1048576: true; the input reads as it did. -/
def worldToldUptoRow : OpenClaim := { program := "ytbmafpbjkeehaaa", sum := "c5ea1019b9ea79c2b1743460cecb0002e81955a561ce0acd47a29b78a87f0ff1", func := "casket/casketlaw10.WorldTold", spec := "worldTold", recurses := true, apart := false, narrowed := true }
def WorldToldUptoSaid : Prop := worldToldUptoRow.holds Try.pinned (OpenSpec.upto worldToldSpec)

/-- 'casketlaw10.WorldAdopts', WHERE WHAT IT READS IS OF BULK AT MOST 1048576: true; the input reads as it did. -/
def worldAdoptsUptoRow : OpenClaim := { program := "ytbmafpbjkeehaaa", sum := "c5ea1019b9ea79c2b1743460cecb0002e81955a561ce0acd47a29b78a87f0ff1", func := "casket/casketlaw10.WorldAdopts", spec := "worldAdopts", recurses := true, apart := false, narrowed := true }
def WorldAdoptsUptoSaid : Prop := worldAdoptsUptoRow.holds Try.pinned (OpenSpec.upto worldAdoptsSpec)

/-- 'casketlaw10.WorldEdits', WHERE WHAT IT READS IS OF BULK AT MOST 1048576: true; the input reads as it did. -/
def worldEditsUptoRow : OpenClaim := { program := "ytbmafpbjkeehaaa", sum := "c5ea1019b9ea79c2b1743460cecb0002e81955a561ce0acd47a29b78a87f0ff1", func := "casket/casketlaw10.WorldEdits", spec := "worldEdits", recurses := true, apart := false, narrowed := true }
def WorldEditsUptoSaid : Prop := worldEditsUptoRow.holds Try.pinned (OpenSpec.upto worldEditsSpec)

end Rows
end Go.Proofs.Ytbmafpbjkeehaaa
