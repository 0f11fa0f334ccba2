/- Engine 22: a struct against itself -/
import Derived.Test.YtjmicpkinflofaaDoorS14
namespace Go.Proofs.YtjmicpkinflofaaDoor.S
open Go.RowKit
set_option linter.unusedVariables false
set_option linter.unusedSimpArgs false
set_option maxRecDepth 100000
set_option maxHeartbeats 4000000
class Tr (b : Bool) : Prop where out : b = true
instance tr_true : Tr true := ⟨rfl⟩
instance tr_self {α : Type} {a : α} [Decidable (a = a)] : Tr (decide (a = a)) := ⟨decide_eq_true rfl⟩
instance tr_beq {a : Bool} : Tr (a == a) := ⟨by simp⟩
instance tr_and {a b : Bool} [ha : Tr a] [hb : Tr b] : Tr (a && b) := ⟨by rw [ha.out, hb.out]; rfl⟩
section
variable {P : Program} {e : Env} {L : List Hp} {F : Fr} {d : Option Nat} {t u : TypeId} {p : String} {af : Array Edge} {g : Option (Nat × Bool)} {x y : Operand} {v1 : TypeId} {l : List (TypeId × Nat)} {vs : List Value} {n : Nat} {b : Bool}
instance (priority := high) sv_eql_struct_self [hx : EvO e x (.agg vs.toArray)] [hy : EvO e y (.agg vs.toArray)] [hs : StrT P t l] [h : EqT P t (.agg vs.toArray) (.agg vs.toArray) n b] [hb : Tr b] [hn : EqB (Nat.ble n 10000) true] : StepV P e L F ⟨d, .binOp .eql t x y u, v1, p, af, g⟩ (.bool true) := by
  have hh := hb.out
  subst hh
  exact sv_eql_struct (b := true) (n := n)
instance (priority := high) sv_neq_struct_self [hx : EvO e x (.agg vs.toArray)] [hy : EvO e y (.agg vs.toArray)] [hs : StrT P t l] [h : EqT P t (.agg vs.toArray) (.agg vs.toArray) n b] [hb : Tr b] [hn : EqB (Nat.ble n 10000) true] : StepV P e L F ⟨d, .binOp .neq t x y u, v1, p, af, g⟩ (.bool false) := by
  have hh := hb.out
  subst hh
  exact sv_neq_struct (b := true) (n := n)
end
end Go.Proofs.YtjmicpkinflofaaDoor.S
