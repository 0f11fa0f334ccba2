-- Printed by wip/srow.py of this session. Not trusted: Lean checks it.
import Derived.Test.YtcoohckdnefacaaRows
import Derived.Test.YtcoohckdnefacaaEQ
import Derived.WalkKit
import Derived.ProofKit
import Derived.OpenShut
import Derived.ShutString
import Derived.ChangeOld
import Derived.Below
import Derived.SizedLaws
import Derived.Carry
namespace Go.Proofs.Ytcoohckdnefacaa.execApart
open Go.ChangeShapes Go.WideShapes Go.ChangeAt Go.RowKit Go.Proofs.Ytcoohckdnefacaa.S
open Go.ChangeMaps (open_string shut_string)
set_option linter.unusedVariables false
theorem own : ownKnob Try.prog.godebug = none := by kernel_rfl
theorem laidOut : laidOutB Try.prog = true := by kernel_rfl
set_option maxRecDepth 100000 in
theorem lifted (os : Os) (started : os.Started) (H : Type) (enc : TypeId × Value → H) :
    ReturnsInHanded {} Try.checked os 4 .any (Rows.execApartSpec.pre6 enc Try.prog Try.f4 Rows.execApartRow.domain false) (Rows.execApartSpec.post enc Try.prog Try.f4 false true false false) := by
  refine returnsInHanded_of_change_sized (C := Try.checked) own started (by kernel_rfl) Try.func4
    (ChangeSpec.witness6 (enc := enc) (C := Try.checked) false ⟨#[], #[.string ByteArray.empty, .string ByteArray.empty, .string ByteArray.empty, .slice none 0 0], []⟩ 8 (by kernel_rfl) (by kernel_rfl) (by kernel_rfl) (by kernel_rfl)) ?_
  intro W base args ds gs before hval0 hW hcnd hsz0 _
  have hsz : (DataW.weightsEach Try.prog (Try.f4.params.toList ++ Rows.execApartSpec.plain.varTypes Try.prog) (ds ++ gs)).all (· ≤ reachBytes) = true := hsz0
  have hval : ∀ (j : Nat) t v, Try.f4.params[j]? = some t → args[j]? = some v → Value.okWide Try.prog W .any base t v := hval0
  have hW' := hW
  obtain ⟨p, q, hA0, hV, rfl, hfz, hnd⟩ := hW
  have hA : DataW.TrodAll enc Try.prog W 0 (fun _ => true) true Try.f4.params.toList args.toList ds p := hA0
  rw [Try.params4] at hA hval hsz
  obtain ⟨v0, vs0, d0, ds0, p0, q0, hargs, rfl, rfl, h0, r0⟩ := trodAll_cons hA
  obtain ⟨v1, vs1, d1, ds1, p1, q1, rfl, rfl, rfl, h1, r1⟩ := trodAll_cons r0
  obtain ⟨v2, vs2, d2, ds2, p2, q2, rfl, rfl, rfl, h2, r2⟩ := trodAll_cons r1
  obtain ⟨v3, vs3, d3, ds3, p3, q3, rfl, rfl, rfl, h3, r3⟩ := trodAll_cons r2
  obtain ⟨rfl, rfl, rfl⟩ := trodAll_nil r3
  obtain rfl : args = #[v0, v1, v2, v3] := by cases args; simp_all
  obtain ⟨rfl, rfl⟩ := trodVars_none hV
  have k0 := h0
  have lt0 : ∀ x ∈ p0, x.block < W.heap.size := by obtain ⟨m, hm⟩ := k0; exact DataW.trod_lt m _ _ _ hm
  have c0 := arg_one Try.underlying9 trivial (hval 0 9 v0 rfl rfl)
  obtain ⟨fuel0, hf0⟩ := h0
  rw [c0] at hf0
  obtain ⟨x0, e0, g0⟩ := open_execApart_0.2 hf0 (weight_of hsz (j := 0) (t := 9) rfl rfl)
  obtain rfl : v0 = .string x0 := (List.cons.inj (show [v0] = [.string x0] from e0)).1
  have k1 := h1
  have lt1 : ∀ x ∈ p1, x.block < W.heap.size := by obtain ⟨m, hm⟩ := k1; exact DataW.trod_lt m _ _ _ hm
  have c1 := arg_one Try.underlying9 trivial (hval 1 9 v1 rfl rfl)
  obtain ⟨fuel1, hf1⟩ := h1
  rw [c1] at hf1
  obtain ⟨x1, e1, g1⟩ := open_execApart_1.2 hf1 (weight_of hsz (j := 1) (t := 9) rfl rfl)
  obtain rfl : v1 = .string x1 := (List.cons.inj (show [v1] = [.string x1] from e1)).1
  have k2 := h2
  have lt2 : ∀ x ∈ p2, x.block < W.heap.size := by obtain ⟨m, hm⟩ := k2; exact DataW.trod_lt m _ _ _ hm
  have c2 := arg_one Try.underlying9 trivial (hval 2 9 v2 rfl rfl)
  obtain ⟨fuel2, hf2⟩ := h2
  rw [c2] at hf2
  obtain ⟨x2, e2, g2⟩ := open_execApart_2.2 hf2 (weight_of hsz (j := 2) (t := 9) rfl rfl)
  obtain rfl : v2 = .string x2 := (List.cons.inj (show [v2] = [.string x2] from e2)).1
  have k3 := h3
  have lt3 : ∀ x ∈ p3, x.block < W.heap.size := by obtain ⟨m, hm⟩ := k3; exact DataW.trod_lt m _ _ _ hm
  have c3 := arg_one Try.underlying52 trivial (hval 3 52 v3 rfl rfl)
  obtain ⟨fuel3, hf3⟩ := h3
  rw [c3] at hf3
  obtain ⟨x3, e3, g3⟩ := open_execApart_3.2 hf3 (weight_of hsz (j := 3) (t := 52) rfl rfl)
  obtain rfl : v3 = .slice x3.A x3.xs.length x3.c := (List.cons.inj (show [v3] = [.slice x3.A x3.xs.length x3.c] from e3)).1
  clear hA0 hval0 hsz0 hsz
  refine (execApart_calls x0 x1 x2 x3 W  g0 g1 g2 g3).mono fun e W' ⟨he, bel⟩ => ?_
  subst he
  exact ⟨_, rfl, _, _, _, [], _, [], hW', trodAll_mk1 (shut_bool Try.underlying4 _), (trodAll_cons_mk (Below.trod laidOut (by kernel_rfl) (of_decide_eq_true (by kernel_rfl)) k0 bel lt0) (trodAll_cons_mk (Below.trod laidOut (by kernel_rfl) (of_decide_eq_true (by kernel_rfl)) k1 bel lt1) (trodAll_cons_mk (Below.trod laidOut (by kernel_rfl) (of_decide_eq_true (by kernel_rfl)) k2 bel lt2) (trodAll_cons_mk (Below.trod laidOut (by kernel_rfl) (of_decide_eq_true (by kernel_rfl)) k3 bel lt3) trodAll_mk0)))), rfl, bel.frame _, fun h => by cases h⟩
theorem over : Rows.execApartRow.holds Try.pinned (OpenSpec.ofChange Rows.execApartSpec) :=
  OpenClaim.holds_of_wide 4 Try.f4 rfl rfl rfl rfl rfl rfl rfl ⟨rfl, rfl, rfl, rfl, rfl⟩ rfl rfl rfl rfl rfl (by kernel_rfl) Try.func4 (by kernel_rfl)
    (of_decide_eq_true (by kernel_rfl)) (by unfold Func.isWrapper; first | (rw [if_pos (by decide +kernel)]; kernel_rfl) | (rw [if_neg (by decide +kernel)]; exact ⟨rfl, rfl⟩))
    (fun os started H enc _ => lifted os started H enc)
theorem proved : Rows.ExecApartSaid := over
#print axioms proved
end Go.Proofs.Ytcoohckdnefacaa.execApart
namespace Go.Proofs.Ytcoohckdnefacaa
/-- The row, under a short name, for the claim. -/
theorem execApart_holds : Rows.ExecApartSaid := execApart.proved
end Go.Proofs.Ytcoohckdnefacaa
