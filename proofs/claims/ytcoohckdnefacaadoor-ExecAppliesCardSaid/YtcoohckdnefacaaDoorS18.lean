/- The walk: functions that capture. Generic over programs. -/
import Derived.Test.YtcoohckdnefacaaDoorS17
namespace Go.Proofs.YtcoohckdnefacaaDoor.S
open Go.RowKit
set_option linter.unusedVariables false
set_option linter.unusedSimpArgs false
section
variable {P : Program} {N : Nat} {e e' : Env} {L Lp Lr : List Hp} {F : Fr} {Q : Exit → Act → World → Prop} {ops : Array Oper} {d : Nat} {dst : Option Nat} {v1 : TypeId} {p : String} {af : Array Edge} {g : Option (Nat × Bool)} {rest : List Oper}
theorem run_callc {f : FuncId} {vs cs : List Value} {a : Act} {w : World} {xs : List Operand} {ats : Array TypeId} {k : Operand} [hk : EvO e k (.func (.func f) #[] cs.toArray)] [hc : Callee P f] [hx : EvOs e xs vs] (hf : Fits N e a) :
    (execOp a.eval ⟨dst, .call { callee := .value k, args := xs.toArray, argTypes := ats }, v1, p, af, g⟩).run P w = .ok (.enter f (vs ++ cs).toArray) w := by
  have h1 : (xs.toArray.map a.eval) = vs.toArray := by rw [List.map_toArray, hx.out hf]
  simp only [execOp, resolve, h1, hk.out hf, Deferred.ofValue, invoke, Sem.run_bind, Sem.run_pure, Result.andThen_ok, Array.empty_append, hc.out, List.append_toArray, List.nil_append]
instance sv_makeFunc {f : FuncId} {cs : List Value} {xs : List Operand} {t : TypeId} [hx : EvOs e xs cs] : StepV P e L F ⟨dst, .makeFunc (.func f) #[] xs.toArray, t, p, af, g⟩ (.func (.func f) #[] cs.toArray) := ⟨fun {N a w} hf hsat => by
  have h1 : (xs.toArray.map a.eval) = cs.toArray := by rw [List.map_toArray, hx.out hf]
  simp only [execOp, Instr.makeFunc, h1, Sem.run_pure, List.map_toArray, List.map_nil]
  rfl⟩
theorem j_callc {f : FuncId} {vs cs : List Value} {R : Fr → Prop} {S : Value → List Hp → Prop} {xs : List Operand} {ats : Array TypeId} {k : Operand} [hk : EvO e k (.func (.func f) #[] cs.toArray)] [hc : Callee P f] [hx : EvOs e xs vs] (spec : Spec P f (vs ++ cs) Lp R S) (hd : Nat.blt d N = true) (hp : Picks Lp L Lr) (hR : ∀ F', FrExt Lr F F' → R F')
    (h : ∀ v L', S v L' → J N ((d, v) :: e) (L' ++ Lr) F (wpList P ops Q rest)) : J N e L F (wpList P ops Q (⟨some d, .call { callee := .value k, args := xs.toArray, argTypes := ats }, v1, p, af, none⟩ :: rest)) := fun a w hf hs => by
  unfold wpList
  rw [if_pos (wanted_none rfl _)]
  left
  unfold Oper.wp
  rw [run_callc (cs := cs) hf, Oper.upon_enter]
  refine (calls_frame spec hp hR hs).mono ?_
  rintro e' w' ⟨v, L', rfl, hS, hs'⟩
  exact h v L' hS _ w' (hf.put hd v) hs'
end
end Go.Proofs.YtcoohckdnefacaaDoor.S
