/- exec: walks of rules, step -/
import Derived.Test.YtcoohckdnefacaaDoorED
import Derived.Test.YtcoohckdnefacaaDoorS15
namespace Go.Proofs.YtcoohckdnefacaaDoor.S
open Go.RowKit
set_option linter.unusedVariables false
set_option linter.unusedSimpArgs false
set_option maxRecDepth 100000
set_option maxHeartbeats 4000000
set_option synthInstance.maxHeartbeats 400000
set_option synthInstance.maxSize 4000
attribute [local irreducible] wpList Code.wp Exit.then Exit.inBlock stillR bodyPost hR J Back Mid
structure Rul where
  live : Bool
  f : Option Nat
@[reducible] def Rul.fv (r : Rul) : Value := match r.f with | none => .nilFunc | some f => .func (.func f) #[] #[]
def encRul : Enc Rul := ⟨2, by decide, fun r => [.bool r.live, r.fv], fun _ => rfl, fun x v h => by
  obtain ⟨l, f⟩ := x
  cases f <;> (simp [Rul.fv] at h; rcases h with rfl | rfl <;> rfl)⟩
instance : EncSz encRul 2 := ⟨rfl⟩
instance decL_rul0 {b : Bool} {vs : List Value} {xs : List Rul} [h : DecL encRul vs xs] : DecL encRul (.bool b :: .nilFunc :: vs) (⟨b, none⟩ :: xs) := ⟨by rw [List.flatMap_cons, h.out]; rfl⟩
instance encAll_rul {r : Rul} : EncAll encRul r [.bool r.live, r.fv] := ⟨rfl⟩
def rulesL : List Rul := [⟨false, none⟩, ⟨false, some 37⟩, ⟨true, some 38⟩, ⟨true, some 39⟩, ⟨true, some 40⟩, ⟨true, some 41⟩, ⟨false, some 42⟩]
theorem rules_spec : Spec Tryd.prog 33 [] [] (fun _ => True) (fun v L => ∃ A, v = .slice A 7 7 ∧ L = [own encRul A 7 rulesL]) := by
  refine spec_of Tryd.func33 rfl Tryd.ntmps33 fun F hF => ?_
  repeat (first | refine j_addN (by omega) rfl ?_ | refine j_subN (by omega) rfl ?_ | refine j_mulN (by omega) rfl ?_ | refine j_remN (by omega) rfl ?_ | refine j_addI (by omega) (by omega) rfl ?_ | refine j_subI (by omega) (by omega) rfl ?_ | refine j_op rfl ?_ | refine j_pickF rfl ?_ | refine j_pickT rfl ?_ | refine j_region ?_ | refine j_nil ?_ | refine j_then ?_ | refine j_mono (by assumption) ?_ | (refine j_seq fun K hK => ?_) | refine j_gdo rfl ?_ | refine j_gskip_t rfl ?_ | refine j_gskip_f rfl ?_ | refine j_gskip_u rfl ?_ | refine j_gspec rfl ?_ | refine j_block ?_ | refine j_ret ?_ | refine j_then_ret ?_ | refine j_in_ret ?_ | refine j_in_normal ?_ | refine j_exit ?_ | refine j_then_exit ?_ | refine j_in_exit ?_ | refine j_in_past ?_ | refine j_skip ?_ | refine j_cond_t ?_ | refine j_cond_f ?_ | refine j_store rfl ?_ | refine j_still_nil ?_ | (refine j_buildSlice rfl rfl rfl rfl fun bx => ?_) | (refine j_alloc rfl fun bx => ?_) | (refine j_box rfl fun bx => ?_))
  refine j_buildSliceF encRul [(0, 2), (2, 2), (4, 2), (6, 2), (8, 2), (10, 2), (12, 2)] [.bool false, .nilFunc, .bool false, .nilFunc, .bool false, .nilFunc, .bool false, .nilFunc, .bool false, .nilFunc, .bool false, .nilFunc, .bool false, .nilFunc] rfl rfl rfl rfl rfl fun bq => ?_
  repeat (first | refine j_addN (by omega) rfl ?_ | refine j_subN (by omega) rfl ?_ | refine j_mulN (by omega) rfl ?_ | refine j_remN (by omega) rfl ?_ | refine j_addI (by omega) (by omega) rfl ?_ | refine j_subI (by omega) (by omega) rfl ?_ | refine j_op rfl ?_ | refine j_pickF rfl ?_ | refine j_pickT rfl ?_ | refine j_region ?_ | refine j_nil ?_ | refine j_then ?_ | refine j_mono (by assumption) ?_ | (refine j_seq fun K hK => ?_) | refine j_gdo rfl ?_ | refine j_gskip_t rfl ?_ | refine j_gskip_f rfl ?_ | refine j_gskip_u rfl ?_ | refine j_gspec rfl ?_ | refine j_block ?_ | refine j_ret ?_ | refine j_then_ret ?_ | refine j_in_ret ?_ | refine j_in_normal ?_ | refine j_exit ?_ | refine j_then_exit ?_ | refine j_in_exit ?_ | refine j_in_past ?_ | refine j_skip ?_ | refine j_cond_t ?_ | refine j_cond_f ?_ | refine j_store rfl ?_ | refine j_still_nil ?_ | (refine j_buildSlice rfl rfl rfl rfl fun bx => ?_) | (refine j_alloc rfl fun bx => ?_) | (refine j_box rfl fun bx => ?_))
  refine j_le (own_of_cells (E := encRul) (xs := rulesL) rfl rfl) ?_
  (first | refine j_done (.inl rfl) ?_ | refine j_done (.inr rfl) ?_ | refine j_doneM (.inl rfl) ?_ | refine j_doneM (.inr rfl) ?_)
  exact ⟨_, ⟨_, rfl, rfl⟩, LE.refl _⟩
end Go.Proofs.YtcoohckdnefacaaDoor.S
