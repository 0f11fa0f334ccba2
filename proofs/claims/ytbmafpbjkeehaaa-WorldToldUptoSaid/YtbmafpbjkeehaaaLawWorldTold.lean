-- Printed by wip/srow.py of this session. Not trusted: Lean checks it.
import Derived.Test.YtbmafpbjkeehaaaRows
import Derived.Test.YtbmafpbjkeehaaaWT
import Derived.WalkKit
import Derived.ProofKit
import Derived.OpenShut
import Derived.ShutString
import Derived.ChangeOld
import Derived.Below
import Derived.SizedLaws
import Derived.Carry
import Derived.JoinedCond
import Derived.Deep.CondSized
namespace Go.Proofs.Ytbmafpbjkeehaaa.worldTold
open Go.ChangeShapes Go.WideShapes Go.ChangeAt Go.RowKit Go.Proofs.Ytbmafpbjkeehaaa.S
open Go.ChangeMaps (open_string shut_string)
set_option linter.unusedVariables false
theorem own : ownKnob Try.prog.godebug = none := by kernel_rfl
theorem laidOut : laidOutB Try.prog = true := by kernel_rfl
set_option maxRecDepth 100000 in
theorem lifted (os : Os) (started : os.Started) (H : Type) (enc : TypeId × Value → H) (F : Stop.Interp) :
    ReturnsInHanded {} Try.checked os 4 .any ((Rows.OpenSpec.upto Rows.worldToldSpec).pre6 enc Try.prog Try.f4 Rows.worldToldUptoRow.domain false) (((Rows.OpenSpec.upto Rows.worldToldSpec).at F).post enc Try.prog Try.f4 false true false false) := by
  refine returnsInHanded_of_cond_sized (C := Try.checked) (s := Rows.OpenSpec.upto Rows.worldToldSpec) (k := Rows.uptoSmall) rfl own started (by kernel_rfl) Try.func4
    (OpenSpec.witness (enc := enc) (C := Try.checked) (s := Rows.OpenSpec.upto Rows.worldToldSpec) (k := Rows.uptoSmall) rfl false ⟨#[], #[.slice none 0 0, .slice none 0 0], []⟩ 8 (by kernel_rfl) (by kernel_rfl) (by kernel_rfl)
      (x := ([.nil, .nil], [], [])) (by kernel_rfl) rfl (by kernel_rfl)) ?_
  intro W base args ds gs before hval0 hW hcnd hk0 hsz0 _
  have hsz : (DataW.weightsEach Try.prog (Try.f4.params.toList ++ Rows.worldToldSpec.plain.varTypes Try.prog) (ds ++ gs)).all (· ≤ reachBytes) = true := hsz0
  have hval : ∀ (j : Nat) t v, Try.f4.params[j]? = some t → args[j]? = some v → Value.okWide Try.prog W .any base t v := hval0
  have hW' := hW
  obtain ⟨p, q, hA0, hV, rfl, hfz, hnd⟩ := hW
  have hA : DataW.TrodAll enc Try.prog W 0 (fun _ => true) true Try.f4.params.toList args.toList ds p := hA0
  rw [Try.params4] at hA hval hsz
  obtain ⟨v0, vs0, d0, ds0, p0, q0, hargs, rfl, rfl, h0, r0⟩ := trodAll_cons hA
  obtain ⟨v1, vs1, d1, ds1, p1, q1, rfl, rfl, rfl, h1, r1⟩ := trodAll_cons r0
  obtain ⟨rfl, rfl, rfl⟩ := trodAll_nil r1
  obtain rfl : args = #[v0, v1] := by cases args; simp_all
  obtain ⟨rfl, rfl⟩ := trodVars_none hV
  have k0 := h0
  have lt0 : ∀ x ∈ p0, x.block < W.heap.size := by obtain ⟨m, hm⟩ := k0; exact DataW.trod_lt m _ _ _ hm
  have c0 := arg_one Try.underlying30 trivial (hval 0 30 v0 rfl rfl)
  obtain ⟨fuel0, hf0⟩ := h0
  rw [c0] at hf0
  obtain ⟨x0, e0, g0⟩ := open_worldTold_0.2 hf0 (weight_of hsz (j := 0) (t := 30) rfl rfl)
  obtain rfl : v0 = .slice x0.A x0.xs.length x0.c := (List.cons.inj (show [v0] = [.slice x0.A x0.xs.length x0.c] from e0)).1
  have k1 := h1
  have lt1 : ∀ x ∈ p1, x.block < W.heap.size := by obtain ⟨m, hm⟩ := k1; exact DataW.trod_lt m _ _ _ hm
  have c1 := arg_one Try.underlying22 trivial (hval 1 22 v1 rfl rfl)
  obtain ⟨fuel1, hf1⟩ := h1
  rw [c1] at hf1
  obtain ⟨x1, e1, g1⟩ := open_worldTold_1.2 hf1 (weight_of hsz (j := 1) (t := 22) rfl rfl)
  obtain rfl : v1 = .slice x1.A x1.xs.length x1.c := (List.cons.inj (show [v1] = [.slice x1.A x1.xs.length x1.c] from e1)).1
  have hkb : Rows.uptoBulkAll ([d0, d1] ++ []) ≤ 1048576 := of_decide_eq_true hk0
  simp only [List.append_nil, Rows.uptoBulkAll] at hkb
  have b0 : x0.xs.length ≤ 1048576 := by have := bulk_len Try.underlying30 hf0; simp only at this; omega
  have b1 : x1.xs.length ≤ 1048576 := by have := bulk_len Try.underlying22 hf1; simp only at this; omega
  clear hA0 hval0 hsz0 hsz
  refine (worldTold_calls x0 x1 W  b0 b1 g0 g1).mono fun e W' ⟨he, bel⟩ => ?_
  subst he
  exact ⟨_, rfl, _, _, _, [], _, [], hW', trodAll_mk1 (shut_bool Try.underlying4 _), (trodAll_cons_mk (Below.trod laidOut (by kernel_rfl) (of_decide_eq_true (by kernel_rfl)) k0 bel lt0) (trodAll_cons_mk (Below.trod laidOut (by kernel_rfl) (of_decide_eq_true (by kernel_rfl)) k1 bel lt1) trodAll_mk0)), rfl, bel.frame _, fun h => by cases h⟩
theorem proved : Rows.WorldToldUptoSaid :=
  OpenClaim.holds_of_cond 4 Try.f4 rfl rfl rfl rfl rfl rfl rfl ⟨rfl, rfl, rfl, rfl, rfl⟩ rfl rfl rfl rfl rfl (by kernel_rfl) Try.func4 (by kernel_rfl)
    (of_decide_eq_true (by kernel_rfl)) (by unfold Func.isWrapper; first | (rw [if_pos (by decide +kernel)]; kernel_rfl) | (rw [if_neg (by decide +kernel)]; exact ⟨rfl, rfl⟩))
    (fun os started H enc _ F => lifted os started H enc F)
#print axioms proved
end Go.Proofs.Ytbmafpbjkeehaaa.worldTold
namespace Go.Proofs.Ytbmafpbjkeehaaa
/-- The row, under a short name, for the claim. -/
theorem worldTold_holds : Rows.WorldToldUptoSaid := worldTold.proved
end Go.Proofs.Ytbmafpbjkeehaaa
