/-
  No cell of these rows narrows 'for every input' (looked for: loops, veiled, ifaces, maps, wideKeys, modest, calm, conditions, laid).
  DERIVED. THE GIVEN ROWS OF THIS SEAT. 4 by the template 'for every input the law returns true; each argument reads behind the call as it read before'; 0 by the template 'total and deterministic' (their statements: YtjmicpkinflofaaTotals.lean).
  GIVEN WITH THE SEED: the statements are not yours to turn. If you find one false, say at which input.
  Laid BY PROGRAM, IN A SANDBOX (cutbox-rows.mjs): the forced cells as the released guide's own fill.sh prints them over the translation 6c5e2c74679bcd70… (all of the seat's roots in one cut). By AI agents, Wed Nov 11 2026. No macro, syntax, notation, axiom, sorry.
-/
import Derived.Test.YtjmicpkinflofaaChecked
import GoSem.Claim
import GoSem.ClaimJoined
import GoSem.ClaimMapViews
import Derived.JoinedTies
import Derived.KernelRfl
namespace Go.Proofs.Ytjmicpkinflofaa
/- THE CELL 'sum', in the pinned program and in every row, IS THE sha256 OF THE DUMP (.gsa) THAT YtjmicpkinflofaaProg.lean LOADS. Nothing in Lean hashes anything: it is a label: what it is worth is what the hold of that sum in a sandbox is worth. -/
noncomputable def Try.pinned : Pinned := { name := "ytjmicpkinflofaa", sum := "6c5e2c74679bcd70a40dbde8b3e705044b4bf2c04c1bbebd14ea5838f1345477", checked := Try.checked }
namespace Rows
def none {H : Type} : Left H := { results := [], args := [] }

/-- 'casketlaw13.PoolLoads': WHATEVER THE INPUT: true; the input reads as it did. -/
def poolLoadsSpec : ChangeSpec := { name := "poolLoads", fn := fun _ => fun
  | [d1, d2, d3] => { results := [.lit (.bool true)], args := [d1, d2, d3] }
  | _ => none }
def poolLoadsRow : OpenClaim := { program := "ytjmicpkinflofaa", sum := "6c5e2c74679bcd70a40dbde8b3e705044b4bf2c04c1bbebd14ea5838f1345477", func := "casket/casketlaw13.PoolLoads", spec := "poolLoads", apart := false }
def PoolLoadsSaid : Prop := poolLoadsRow.holds Try.pinned (OpenSpec.ofChange poolLoadsSpec)

/-- ITS FALSE NEIGHBOUR: 'it returns false'. Refute it at one input. -/
def poolLoadsWrong : ChangeSpec := { name := "poolLoads", fn := fun _ => fun
  | [d1, d2, d3] => { results := [.lit (.bool false)], args := [d1, d2, d3] }
  | _ => none }
def PoolLoadsWrongFalsely : Prop := poolLoadsRow.holds Try.pinned (OpenSpec.ofChange poolLoadsWrong)

/-- 'casketlaw13.PoolQueues': WHATEVER THE INPUT: true; the input reads as it did. -/
def poolQueuesSpec : ChangeSpec := { name := "poolQueues", fn := fun _ => fun
  | [d1, d2, d3, d4] => { results := [.lit (.bool true)], args := [d1, d2, d3, d4] }
  | _ => none }
def poolQueuesRow : OpenClaim := { program := "ytjmicpkinflofaa", sum := "6c5e2c74679bcd70a40dbde8b3e705044b4bf2c04c1bbebd14ea5838f1345477", func := "casket/casketlaw13.PoolQueues", spec := "poolQueues", apart := false }
def PoolQueuesSaid : Prop := poolQueuesRow.holds Try.pinned (OpenSpec.ofChange poolQueuesSpec)

/-- ITS FALSE NEIGHBOUR: 'it returns false'. Refute it at one input. -/
def poolQueuesWrong : ChangeSpec := { name := "poolQueues", fn := fun _ => fun
  | [d1, d2, d3, d4] => { results := [.lit (.bool false)], args := [d1, d2, d3, d4] }
  | _ => none }
def PoolQueuesWrongFalsely : Prop := poolQueuesRow.holds Try.pinned (OpenSpec.ofChange poolQueuesWrong)

/-- 'casketlaw13.PoolCopies': WHATEVER THE INPUT: true; the input reads as it did. -/
def poolCopiesSpec : ChangeSpec := { name := "poolCopies", fn := fun _ => fun
  | [d1, d2, d3, d4, d5] => { results := [.lit (.bool true)], args := [d1, d2, d3, d4, d5] }
  | _ => none }
def poolCopiesRow : OpenClaim := { program := "ytjmicpkinflofaa", sum := "6c5e2c74679bcd70a40dbde8b3e705044b4bf2c04c1bbebd14ea5838f1345477", func := "casket/casketlaw13.PoolCopies", spec := "poolCopies", inPlace := ["maps.clone"], apart := false }
def PoolCopiesSaid : Prop := poolCopiesRow.holds Try.pinned (OpenSpec.ofChange poolCopiesSpec)

/-- ITS FALSE NEIGHBOUR: 'it returns false'. Refute it at one input. -/
def poolCopiesWrong : ChangeSpec := { name := "poolCopies", fn := fun _ => fun
  | [d1, d2, d3, d4, d5] => { results := [.lit (.bool false)], args := [d1, d2, d3, d4, d5] }
  | _ => none }
def PoolCopiesWrongFalsely : Prop := poolCopiesRow.holds Try.pinned (OpenSpec.ofChange poolCopiesWrong)

/-- 'casketlaw13.PoolHolds': WHATEVER THE INPUT: true; the input reads as it did. -/
def poolHoldsSpec : ChangeSpec := { name := "poolHolds", fn := fun _ => fun
  | [d1, d2, d3] => { results := [.lit (.bool true)], args := [d1, d2, d3] }
  | _ => none }
def poolHoldsRow : OpenClaim := { program := "ytjmicpkinflofaa", sum := "6c5e2c74679bcd70a40dbde8b3e705044b4bf2c04c1bbebd14ea5838f1345477", func := "casket/casketlaw13.PoolHolds", spec := "poolHolds", apart := false }
def PoolHoldsSaid : Prop := poolHoldsRow.holds Try.pinned (OpenSpec.ofChange poolHoldsSpec)

/-- ITS FALSE NEIGHBOUR: 'it returns false'. Refute it at one input. -/
def poolHoldsWrong : ChangeSpec := { name := "poolHolds", fn := fun _ => fun
  | [d1, d2, d3] => { results := [.lit (.bool false)], args := [d1, d2, d3] }
  | _ => none }
def PoolHoldsWrongFalsely : Prop := poolHoldsRow.holds Try.pinned (OpenSpec.ofChange poolHoldsWrong)

/- THE SECOND FORM. 'bulk': how many values and letters a reading holds, each counted each time it is reached (what is shared counts as often as it is met; a slice's spare places count too). A statement '..UptoSaid' is the law's where the arguments, and the package variables that the reading takes, are together of bulk at most 1048576: NARROWER than '..Said'. Prove '..Said' where nothing that the law and all that it calls make is longer than what came in: it says more and counts as full. Else prove '..UptoSaid'. A law counts once. -/
mutual
def uptoBulk {H : Type} : DataW H → Nat
  | .lit (.string bytes) => bytes.length + 1
  | .lit _ => 1
  | .nil => 1
  | .ptr d => uptoBulk d + 1
  | .slice elems spare => uptoBulkAll elems + uptoBulkAll spare + 1
  | .agg parts => uptoBulkAll parts + 1
  | .iface _ d => uptoBulk d + 1
  | .map entries => uptoBulkEntries entries + 1
  | .held _ => 1
def uptoBulkAll {H : Type} : List (DataW H) → Nat
  | [] => 0
  | d :: r => uptoBulk d + uptoBulkAll r
def uptoBulkEntries {H : Type} : List (Lit × DataW H) → Nat
  | [] => 0
  | x :: r => uptoBulkEntry x + uptoBulkEntries r
def uptoBulkEntry {H : Type} : Lit × DataW H → Nat
  | (.string bytes, d) => bytes.length + uptoBulk d + 1
  | (_, d) => uptoBulk d + 1
 end
def uptoSmall : (H : Type) → List (DataW H) → Bool := fun _ ds => decide (uptoBulkAll ds ≤ 1048576)
def OpenSpec.upto (s : _root_.Go.ChangeSpec) : _root_.Go.OpenSpec := { _root_.Go.OpenSpec.ofChange s with cond := some uptoSmall }

/-- 'casketlaw13.PoolLoads', WHERE WHAT IT READS IS OF BULK AT MOST 1048576: true; the input reads as it did. -/
def poolLoadsUptoRow : OpenClaim := { program := "ytjmicpkinflofaa", sum := "6c5e2c74679bcd70a40dbde8b3e705044b4bf2c04c1bbebd14ea5838f1345477", func := "casket/casketlaw13.PoolLoads", spec := "poolLoads", apart := false, narrowed := true }
def PoolLoadsUptoSaid : Prop := poolLoadsUptoRow.holds Try.pinned (OpenSpec.upto poolLoadsSpec)

/-- 'casketlaw13.PoolQueues', WHERE WHAT IT READS IS OF BULK AT MOST 1048576: true; the input reads as it did. -/
def poolQueuesUptoRow : OpenClaim := { program := "ytjmicpkinflofaa", sum := "6c5e2c74679bcd70a40dbde8b3e705044b4bf2c04c1bbebd14ea5838f1345477", func := "casket/casketlaw13.PoolQueues", spec := "poolQueues", apart := false, narrowed := true }
def PoolQueuesUptoSaid : Prop := poolQueuesUptoRow.holds Try.pinned (OpenSpec.upto poolQueuesSpec)

/-- 'casketlaw13.PoolCopies', WHERE WHAT IT READS IS OF BULK AT MOST 1048576: true; the input reads as it did. -/
def poolCopiesUptoRow : OpenClaim := { program := "ytjmicpkinflofaa", sum := "6c5e2c74679bcd70a40dbde8b3e705044b4bf2c04c1bbebd14ea5838f1345477", func := "casket/casketlaw13.PoolCopies", spec := "poolCopies", inPlace := ["maps.clone"], apart := false, narrowed := true }
def PoolCopiesUptoSaid : Prop := poolCopiesUptoRow.holds Try.pinned (OpenSpec.upto poolCopiesSpec)

/-- 'casketlaw13.PoolHolds', WHERE WHAT IT READS IS OF BULK AT MOST 1048576: true; the input reads as it did. -/
def poolHoldsUptoRow : OpenClaim := { program := "ytjmicpkinflofaa", sum := "6c5e2c74679bcd70a40dbde8b3e705044b4bf2c04c1bbebd14ea5838f1345477", func := "casket/casketlaw13.PoolHolds", spec := "poolHolds", apart := false, narrowed := true }
def PoolHoldsUptoSaid : Prop := poolHoldsUptoRow.holds Try.pinned (OpenSpec.upto poolHoldsSpec)

end Rows
end Go.Proofs.Ytjmicpkinflofaa
