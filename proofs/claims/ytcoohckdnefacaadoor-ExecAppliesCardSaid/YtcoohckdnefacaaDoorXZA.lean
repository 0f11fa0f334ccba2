/- exec: ExecApplies -/
import Derived.Test.YtcoohckdnefacaaDoorXZ
import Derived.Test.YtcoohckdnefacaaDoorRows
import Derived.Lib.LaidU8
import Derived.MakeChecks
namespace Go.Proofs.YtcoohckdnefacaaDoor.S
open Go.RowKit
set_option linter.unusedVariables false
set_option linter.unusedSimpArgs false
set_option maxRecDepth 100000
set_option maxHeartbeats 4000000
set_option synthInstance.maxHeartbeats 400000
set_option synthInstance.maxSize 4000
attribute [local irreducible] wpList Code.wp Exit.then Exit.inBlock stillR bodyPost hR J Back Mid
theorem execApplies_spec (A B C : Option Addr) (c d e1 : Nat) (slots : List Slt) (steps : List Stp) (cs : List ByteArray) (hs : slots.length * 32 ≤ 140737488351232) (hst : steps.length * 136 ≤ 140737488351232) (hcl : cs.length * 16 ≤ 140737488351232) (hn : ∀ s ∈ steps, s.res.names.xs.length * 16 ≤ 140737488351232) (hd : ∀ s ∈ steps, s.eff.data.size ≤ 140737488351232) (hcs : ∀ s ∈ cs, s.size ≤ 140737488351232) :
    Spec Tryd.prog 3 [planV A B slots.length steps.length c d, .slice C cs.length e1] [] (fun F => Tab F ∧ RO F encSlt A slots ∧ RO F encStp B steps ∧ RO F encS C cs ∧ StpRO F steps) (fun v L => v = .bool true) := by
  have hn5 : ∀ s ∈ steps, s.res.names.xs.length * 16 ≤ 140737488355328 := fun s h => by have := hn s h; omega
  have hre := ref_u A B C c d e1 slots steps cs hs hst hn5 hd hcs
  have hle := lends_spec A B C c d e1 slots steps cs hs hst hcl hn5 hcs
  have han := anew_spec A B C c d e1 slots steps cs hs hst hcl hn hd hcs
  have hok : ∀ {rl : List Res} {outs : List ByteArray} {err : Int}, OutIs (applyF slots (steps.map stpP) cs) (rl.map Res.pl) outs err → rl.length ≤ steps.length ∧ outs.length ≤ slots.length ∧ ∀ r ∈ rl, r.names.xs.length * 16 ≤ 140737488355328 := fun h => by
    obtain ⟨h1, h2, h3⟩ := out_ok h
    refine ⟨h1, h2, fun r hr => ?_⟩
    obtain ⟨s, hs1, hs2⟩ := h3 r hr
    rw [hs2]
    exact hn5 s hs1
  generalize applyF slots (steps.map stpP) cs = r at *
  unfold planV at *
  refine spec_of Tryd.func3 rfl Tryd.ntmps3 fun F hF => ?_
  obtain ⟨tab, ro1, ro2, ro3, ro4⟩ := hF
  refine j_seq fun K hK => ?_
  refine j_region ?_
  refine j_box rfl fun bp => ?_
  repeat (first | refine j_addN (by omega) rfl ?_ | refine j_subN (by omega) rfl ?_ | refine j_mulN (by omega) rfl ?_ | refine j_remN (by omega) rfl ?_ | refine j_addI (by omega) (by omega) rfl ?_ | refine j_subI (by omega) (by omega) rfl ?_ | refine j_op rfl ?_ | refine j_pickF rfl ?_ | refine j_pickT rfl ?_ | refine j_region ?_ | refine j_nil ?_ | refine j_then ?_ | refine j_mono (by assumption) ?_ | (refine j_seq fun K hK => ?_) | refine j_gdo rfl ?_ | refine j_gskip_t rfl ?_ | refine j_gskip_f rfl ?_ | refine j_gskip_u rfl ?_ | refine j_gspec rfl ?_ | refine j_block ?_ | refine j_ret ?_ | refine j_then_ret ?_ | refine j_in_ret ?_ | refine j_in_normal ?_ | refine j_exit ?_ | refine j_then_exit ?_ | refine j_in_exit ?_ | refine j_in_past ?_ | refine j_skip ?_ | refine j_cond_t ?_ | refine j_cond_f ?_ | refine j_store rfl ?_ | refine j_still_nil ?_)
  refine j_call works_spec rfl .nil (fun _ _ => trivial) ?_
  rintro _ _ ⟨rfl, rfl⟩
  simp only [List.cons_append, List.nil_append]
  repeat (first | refine j_addN (by omega) rfl ?_ | refine j_subN (by omega) rfl ?_ | refine j_mulN (by omega) rfl ?_ | refine j_remN (by omega) rfl ?_ | refine j_addI (by omega) (by omega) rfl ?_ | refine j_subI (by omega) (by omega) rfl ?_ | refine j_op rfl ?_ | refine j_pickF rfl ?_ | refine j_pickT rfl ?_ | refine j_region ?_ | refine j_nil ?_ | refine j_then ?_ | refine j_mono (by assumption) ?_ | (refine j_seq fun K hK => ?_) | refine j_gdo rfl ?_ | refine j_gskip_t rfl ?_ | refine j_gskip_f rfl ?_ | refine j_gskip_u rfl ?_ | refine j_gspec rfl ?_ | refine j_block ?_ | refine j_ret ?_ | refine j_then_ret ?_ | refine j_in_ret ?_ | refine j_in_normal ?_ | refine j_exit ?_ | refine j_then_exit ?_ | refine j_in_exit ?_ | refine j_in_past ?_ | refine j_skip ?_ | refine j_cond_t ?_ | refine j_cond_f ?_ | refine j_store rfl ?_ | refine j_still_nil ?_)
  refine j_call hre rfl .nil (fun F' hF' => ⟨ro1.ext hF', ro2.ext hF', ro3.ext hF', ro4.ext hF'⟩) ?_
  rintro _ _ ⟨A1, c1, rl1, B1, d1, outs1, err1, hout1, rfl, rfl⟩
  unfold outV
  simp only [List.cons_append, List.nil_append]
  repeat (first | refine j_addN (by omega) rfl ?_ | refine j_subN (by omega) rfl ?_ | refine j_mulN (by omega) rfl ?_ | refine j_remN (by omega) rfl ?_ | refine j_addI (by omega) (by omega) rfl ?_ | refine j_subI (by omega) (by omega) rfl ?_ | refine j_op rfl ?_ | refine j_pickF rfl ?_ | refine j_pickT rfl ?_ | refine j_region ?_ | refine j_nil ?_ | refine j_then ?_ | refine j_mono (by assumption) ?_ | (refine j_seq fun K hK => ?_) | refine j_gdo rfl ?_ | refine j_gskip_t rfl ?_ | refine j_gskip_f rfl ?_ | refine j_gskip_u rfl ?_ | refine j_gspec rfl ?_ | refine j_block ?_ | refine j_ret ?_ | refine j_then_ret ?_ | refine j_in_ret ?_ | refine j_in_normal ?_ | refine j_exit ?_ | refine j_then_exit ?_ | refine j_in_exit ?_ | refine j_in_past ?_ | refine j_skip ?_ | refine j_cond_t ?_ | refine j_cond_f ?_ | refine j_store rfl ?_ | refine j_still_nil ?_)
  refine j_alloc rfl fun b6 => ?_
  repeat (first | refine j_addN (by omega) rfl ?_ | refine j_subN (by omega) rfl ?_ | refine j_mulN (by omega) rfl ?_ | refine j_remN (by omega) rfl ?_ | refine j_addI (by omega) (by omega) rfl ?_ | refine j_subI (by omega) (by omega) rfl ?_ | refine j_op rfl ?_ | refine j_pickF rfl ?_ | refine j_pickT rfl ?_ | refine j_region ?_ | refine j_nil ?_ | refine j_then ?_ | refine j_mono (by assumption) ?_ | (refine j_seq fun K hK => ?_) | refine j_gdo rfl ?_ | refine j_gskip_t rfl ?_ | refine j_gskip_f rfl ?_ | refine j_gskip_u rfl ?_ | refine j_gspec rfl ?_ | refine j_block ?_ | refine j_ret ?_ | refine j_then_ret ?_ | refine j_in_ret ?_ | refine j_in_normal ?_ | refine j_exit ?_ | refine j_then_exit ?_ | refine j_in_exit ?_ | refine j_in_past ?_ | refine j_skip ?_ | refine j_cond_t ?_ | refine j_cond_f ?_ | refine j_store rfl ?_ | refine j_still_nil ?_)
  refine j_call hle rfl .nil (fun F' hF' => ⟨ro1.ext hF', ro2.ext hF', ro3.ext hF', ro4.ext hF'⟩) ?_
  rintro _ _ ⟨A2, rl2, B2, outs2, err2, hout2, rfl, rfl⟩
  unfold outV
  simp only [List.cons_append, List.nil_append]
  obtain ⟨hrs2, hos2, hes2⟩ := hout2.same hout1
  obtain ⟨ok1, ok2, ok3⟩ := hok hout2
  have hsr := sameResults_spec A2 A1 rl2.length c1 rl2 rl1 (by omega) (fun r h => by have := ok3 r h; omega)
  have hstx := sameTexts_spec B2 B1 outs2.length d1 outs2 outs1 (by omega)
  rw [decide_eq_true hrs2] at hsr
  rw [decide_eq_true hos2] at hstx
  have g1 : Dec (err2 ≠ err1) false := dec_f (by simp [hes2])
  repeat (first | refine j_addN (by omega) rfl ?_ | refine j_subN (by omega) rfl ?_ | refine j_mulN (by omega) rfl ?_ | refine j_remN (by omega) rfl ?_ | refine j_addI (by omega) (by omega) rfl ?_ | refine j_subI (by omega) (by omega) rfl ?_ | refine j_op rfl ?_ | refine j_pickF rfl ?_ | refine j_pickT rfl ?_ | refine j_region ?_ | refine j_nil ?_ | refine j_then ?_ | refine j_mono (by assumption) ?_ | (refine j_seq fun K hK => ?_) | refine j_gdo rfl ?_ | refine j_gskip_t rfl ?_ | refine j_gskip_f rfl ?_ | refine j_gskip_u rfl ?_ | refine j_gspec rfl ?_ | refine j_block ?_ | refine j_ret ?_ | refine j_then_ret ?_ | refine j_in_ret ?_ | refine j_in_normal ?_ | refine j_exit ?_ | refine j_then_exit ?_ | refine j_in_exit ?_ | refine j_in_past ?_ | refine j_skip ?_ | refine j_cond_t ?_ | refine j_cond_f ?_ | refine j_store rfl ?_ | refine j_still_nil ?_)
  refine j_alloc rfl fun b8 => ?_
  repeat (first | refine j_addN (by omega) rfl ?_ | refine j_subN (by omega) rfl ?_ | refine j_mulN (by omega) rfl ?_ | refine j_remN (by omega) rfl ?_ | refine j_addI (by omega) (by omega) rfl ?_ | refine j_subI (by omega) (by omega) rfl ?_ | refine j_op rfl ?_ | refine j_pickF rfl ?_ | refine j_pickT rfl ?_ | refine j_region ?_ | refine j_nil ?_ | refine j_then ?_ | refine j_mono (by assumption) ?_ | (refine j_seq fun K hK => ?_) | refine j_gdo rfl ?_ | refine j_gskip_t rfl ?_ | refine j_gskip_f rfl ?_ | refine j_gskip_u rfl ?_ | refine j_gspec rfl ?_ | refine j_block ?_ | refine j_ret ?_ | refine j_then_ret ?_ | refine j_in_ret ?_ | refine j_in_normal ?_ | refine j_exit ?_ | refine j_then_exit ?_ | refine j_in_exit ?_ | refine j_in_past ?_ | refine j_skip ?_ | refine j_cond_t ?_ | refine j_cond_f ?_ | refine j_store rfl ?_ | refine j_still_nil ?_)
  refine j_gcall hsr rfl .nil (fun F' hF' => ⟨hF'.ro_own, hF'.ro_own, namRO_own (l := rl2) hF' (by (repeat' (first | exact Pick.here | apply Pick.there | apply Picks.cons | exact Picks.nil))), namRO_own (l := rl1) hF' (by (repeat' (first | exact Pick.here | apply Pick.there | apply Picks.cons | exact Picks.nil)))⟩) ?_
  rintro _ _ ⟨rfl, rfl⟩
  simp only [List.cons_append, List.nil_append]
  repeat (first | refine j_addN (by omega) rfl ?_ | refine j_subN (by omega) rfl ?_ | refine j_mulN (by omega) rfl ?_ | refine j_remN (by omega) rfl ?_ | refine j_addI (by omega) (by omega) rfl ?_ | refine j_subI (by omega) (by omega) rfl ?_ | refine j_op rfl ?_ | refine j_pickF rfl ?_ | refine j_pickT rfl ?_ | refine j_region ?_ | refine j_nil ?_ | refine j_then ?_ | refine j_mono (by assumption) ?_ | (refine j_seq fun K hK => ?_) | refine j_gdo rfl ?_ | refine j_gskip_t rfl ?_ | refine j_gskip_f rfl ?_ | refine j_gskip_u rfl ?_ | refine j_gspec rfl ?_ | refine j_block ?_ | refine j_ret ?_ | refine j_then_ret ?_ | refine j_in_ret ?_ | refine j_in_normal ?_ | refine j_exit ?_ | refine j_then_exit ?_ | refine j_in_exit ?_ | refine j_in_past ?_ | refine j_skip ?_ | refine j_cond_t ?_ | refine j_cond_f ?_ | refine j_store rfl ?_ | refine j_still_nil ?_)
  refine j_gcall hstx rfl .nil (fun F' hF' => ⟨hF'.ro_own, hF'.ro_own⟩) ?_
  rintro _ _ ⟨rfl, rfl⟩
  simp only [List.cons_append, List.nil_append]
  repeat (first | refine j_addN (by omega) rfl ?_ | refine j_subN (by omega) rfl ?_ | refine j_mulN (by omega) rfl ?_ | refine j_remN (by omega) rfl ?_ | refine j_addI (by omega) (by omega) rfl ?_ | refine j_subI (by omega) (by omega) rfl ?_ | refine j_op rfl ?_ | refine j_pickF rfl ?_ | refine j_pickT rfl ?_ | refine j_region ?_ | refine j_nil ?_ | refine j_then ?_ | refine j_mono (by assumption) ?_ | (refine j_seq fun K hK => ?_) | refine j_gdo rfl ?_ | refine j_gskip_t rfl ?_ | refine j_gskip_f rfl ?_ | refine j_gskip_u rfl ?_ | refine j_gspec rfl ?_ | refine j_block ?_ | refine j_ret ?_ | refine j_then_ret ?_ | refine j_in_ret ?_ | refine j_in_normal ?_ | refine j_exit ?_ | refine j_then_exit ?_ | refine j_in_exit ?_ | refine j_in_past ?_ | refine j_skip ?_ | refine j_cond_t ?_ | refine j_cond_f ?_ | refine j_store rfl ?_ | refine j_still_nil ?_)
  refine j_call hle rfl .nil (fun F' hF' => ⟨ro1.ext hF', ro2.ext hF', ro3.ext hF', ro4.ext hF'⟩) ?_
  rintro _ _ ⟨A3, rl3, B3, outs3, err3, hout3, rfl, rfl⟩
  unfold outV
  simp only [List.cons_append, List.nil_append]
  obtain ⟨hrs3, hos3, hes3⟩ := hout3.same hout1
  obtain ⟨ok4, ok5, ok6⟩ := hok hout3
  have hsr3 := sameResults_spec A3 A1 rl3.length c1 rl3 rl1 (by omega) (fun r h => by have := ok6 r h; omega)
  have hstx3 := sameTexts_spec B3 B1 outs3.length d1 outs3 outs1 (by omega)
  rw [decide_eq_true hrs3] at hsr3
  rw [decide_eq_true hos3] at hstx3
  have g2 : Dec (err3 ≠ err1) false := dec_f (by simp [hes3])
  have hmk := marked_spec A2 B2 rl2 outs2 (by omega) (by omega) ok3
  unfold outV at hmk
  repeat (first | refine j_addN (by omega) rfl ?_ | refine j_subN (by omega) rfl ?_ | refine j_mulN (by omega) rfl ?_ | refine j_remN (by omega) rfl ?_ | refine j_addI (by omega) (by omega) rfl ?_ | refine j_subI (by omega) (by omega) rfl ?_ | refine j_op rfl ?_ | refine j_pickF rfl ?_ | refine j_pickT rfl ?_ | refine j_region ?_ | refine j_nil ?_ | refine j_then ?_ | refine j_mono (by assumption) ?_ | (refine j_seq fun K hK => ?_) | refine j_gdo rfl ?_ | refine j_gskip_t rfl ?_ | refine j_gskip_f rfl ?_ | refine j_gskip_u rfl ?_ | refine j_gspec rfl ?_ | refine j_block ?_ | refine j_ret ?_ | refine j_then_ret ?_ | refine j_in_ret ?_ | refine j_in_normal ?_ | refine j_exit ?_ | refine j_then_exit ?_ | refine j_in_exit ?_ | refine j_in_past ?_ | refine j_skip ?_ | refine j_cond_t ?_ | refine j_cond_f ?_ | refine j_store rfl ?_ | refine j_still_nil ?_)
  refine j_alloc rfl fun b11 => ?_
  repeat (first | refine j_addN (by omega) rfl ?_ | refine j_subN (by omega) rfl ?_ | refine j_mulN (by omega) rfl ?_ | refine j_remN (by omega) rfl ?_ | refine j_addI (by omega) (by omega) rfl ?_ | refine j_subI (by omega) (by omega) rfl ?_ | refine j_op rfl ?_ | refine j_pickF rfl ?_ | refine j_pickT rfl ?_ | refine j_region ?_ | refine j_nil ?_ | refine j_then ?_ | refine j_mono (by assumption) ?_ | (refine j_seq fun K hK => ?_) | refine j_gdo rfl ?_ | refine j_gskip_t rfl ?_ | refine j_gskip_f rfl ?_ | refine j_gskip_u rfl ?_ | refine j_gspec rfl ?_ | refine j_block ?_ | refine j_ret ?_ | refine j_then_ret ?_ | refine j_in_ret ?_ | refine j_in_normal ?_ | refine j_exit ?_ | refine j_then_exit ?_ | refine j_in_exit ?_ | refine j_in_past ?_ | refine j_skip ?_ | refine j_cond_t ?_ | refine j_cond_f ?_ | refine j_store rfl ?_ | refine j_still_nil ?_)
  refine j_call hmk rfl (by (repeat' (first | exact Pick.here | apply Pick.there | apply Picks.cons | exact Picks.nil))) (fun F' hF' => tab.ext hF') ?_
  rintro _ _ ⟨rfl, rfl⟩
  simp only [List.cons_append, List.nil_append]
  repeat (first | refine j_addN (by omega) rfl ?_ | refine j_subN (by omega) rfl ?_ | refine j_mulN (by omega) rfl ?_ | refine j_remN (by omega) rfl ?_ | refine j_addI (by omega) (by omega) rfl ?_ | refine j_subI (by omega) (by omega) rfl ?_ | refine j_op rfl ?_ | refine j_pickF rfl ?_ | refine j_pickT rfl ?_ | refine j_region ?_ | refine j_nil ?_ | refine j_then ?_ | refine j_mono (by assumption) ?_ | (refine j_seq fun K hK => ?_) | refine j_gdo rfl ?_ | refine j_gskip_t rfl ?_ | refine j_gskip_f rfl ?_ | refine j_gskip_u rfl ?_ | refine j_gspec rfl ?_ | refine j_block ?_ | refine j_ret ?_ | refine j_then_ret ?_ | refine j_in_ret ?_ | refine j_in_normal ?_ | refine j_exit ?_ | refine j_then_exit ?_ | refine j_in_exit ?_ | refine j_in_past ?_ | refine j_skip ?_ | refine j_cond_t ?_ | refine j_cond_f ?_ | refine j_store rfl ?_ | refine j_still_nil ?_)
  refine j_gcall hsr3 rfl .nil (fun F' hF' => ⟨hF'.ro_own, hF'.ro_own, namRO_own (l := rl3) hF' (by (repeat' (first | exact Pick.here | apply Pick.there | apply Picks.cons | exact Picks.nil))), namRO_own (l := rl1) hF' (by (repeat' (first | exact Pick.here | apply Pick.there | apply Picks.cons | exact Picks.nil)))⟩) ?_
  rintro _ _ ⟨rfl, rfl⟩
  simp only [List.cons_append, List.nil_append]
  repeat (first | refine j_addN (by omega) rfl ?_ | refine j_subN (by omega) rfl ?_ | refine j_mulN (by omega) rfl ?_ | refine j_remN (by omega) rfl ?_ | refine j_addI (by omega) (by omega) rfl ?_ | refine j_subI (by omega) (by omega) rfl ?_ | refine j_op rfl ?_ | refine j_pickF rfl ?_ | refine j_pickT rfl ?_ | refine j_region ?_ | refine j_nil ?_ | refine j_then ?_ | refine j_mono (by assumption) ?_ | (refine j_seq fun K hK => ?_) | refine j_gdo rfl ?_ | refine j_gskip_t rfl ?_ | refine j_gskip_f rfl ?_ | refine j_gskip_u rfl ?_ | refine j_gspec rfl ?_ | refine j_block ?_ | refine j_ret ?_ | refine j_then_ret ?_ | refine j_in_ret ?_ | refine j_in_normal ?_ | refine j_exit ?_ | refine j_then_exit ?_ | refine j_in_exit ?_ | refine j_in_past ?_ | refine j_skip ?_ | refine j_cond_t ?_ | refine j_cond_f ?_ | refine j_store rfl ?_ | refine j_still_nil ?_)
  refine j_gcall hstx3 rfl .nil (fun F' hF' => ⟨hF'.ro_own, hF'.ro_own⟩) ?_
  rintro _ _ ⟨rfl, rfl⟩
  simp only [List.cons_append, List.nil_append]
  repeat (first | refine j_addN (by omega) rfl ?_ | refine j_subN (by omega) rfl ?_ | refine j_mulN (by omega) rfl ?_ | refine j_remN (by omega) rfl ?_ | refine j_addI (by omega) (by omega) rfl ?_ | refine j_subI (by omega) (by omega) rfl ?_ | refine j_op rfl ?_ | refine j_pickF rfl ?_ | refine j_pickT rfl ?_ | refine j_region ?_ | refine j_nil ?_ | refine j_then ?_ | refine j_mono (by assumption) ?_ | (refine j_seq fun K hK => ?_) | refine j_gdo rfl ?_ | refine j_gskip_t rfl ?_ | refine j_gskip_f rfl ?_ | refine j_gskip_u rfl ?_ | refine j_gspec rfl ?_ | refine j_block ?_ | refine j_ret ?_ | refine j_then_ret ?_ | refine j_in_ret ?_ | refine j_in_normal ?_ | refine j_exit ?_ | refine j_then_exit ?_ | refine j_in_exit ?_ | refine j_in_past ?_ | refine j_skip ?_ | refine j_cond_t ?_ | refine j_cond_f ?_ | refine j_store rfl ?_ | refine j_still_nil ?_)
  refine j_call han rfl .nil (fun F' hF' => ⟨tab.ext hF', ro1.ext hF', ro2.ext hF', ro3.ext hF', ro4.ext hF'⟩) ?_
  rintro _ _ ⟨rfl, rfl⟩
  simp only [List.cons_append, List.nil_append]
  repeat (first | refine j_addN (by omega) rfl ?_ | refine j_subN (by omega) rfl ?_ | refine j_mulN (by omega) rfl ?_ | refine j_remN (by omega) rfl ?_ | refine j_addI (by omega) (by omega) rfl ?_ | refine j_subI (by omega) (by omega) rfl ?_ | refine j_op rfl ?_ | refine j_pickF rfl ?_ | refine j_pickT rfl ?_ | refine j_region ?_ | refine j_nil ?_ | refine j_then ?_ | refine j_mono (by assumption) ?_ | (refine j_seq fun K hK => ?_) | refine j_gdo rfl ?_ | refine j_gskip_t rfl ?_ | refine j_gskip_f rfl ?_ | refine j_gskip_u rfl ?_ | refine j_gspec rfl ?_ | refine j_block ?_ | refine j_ret ?_ | refine j_then_ret ?_ | refine j_in_ret ?_ | refine j_in_normal ?_ | refine j_exit ?_ | refine j_then_exit ?_ | refine j_in_exit ?_ | refine j_in_past ?_ | refine j_skip ?_ | refine j_cond_t ?_ | refine j_cond_f ?_ | refine j_store rfl ?_ | refine j_still_nil ?_)
  (first | refine j_done (.inl rfl) ?_ | refine j_done (.inr rfl) ?_ | refine j_doneM (.inl rfl) ?_ | refine j_doneM (.inr rfl) ?_)
  exact ⟨_, rfl, LE.nil⟩
/-! ### Its arguments -/
theorem opn_str : Opn Tryd.prog encS 9 StrG := opn_string Tryd.underlying9 (by kernel_rfl)
theorem opn_i : Opn Tryd.prog encI 3 IntG := opn_int Tryd.underlying3 (by kernel_rfl)
theorem opn_e : Opn Tryd.prog encI 43 IntG := opn_int Tryd.underlying43 (by kernel_rfl)
theorem opn_strs : Opn Tryd.prog (encSl ByteArray) 26 (SlG encS 16 StrG) := opn_slice (B := 16) Tryd.underlying26 (by kernel_rfl) (by kernel_rfl) opn_str
theorem opn_slt : Opn Tryd.prog encSlt 40 (fun _ _ => True) :=
  opn_iso (E := encPair encI (encPair encI (encPair encI encI))) (opn_struct Tryd.underlying40 (by kernel_rfl) (opnL_cons rfl opn_i (opnL_cons rfl opn_i (opnL_cons rfl opn_i (opnL_one rfl opn_i))))) (fun v => ⟨v.1, v.2.1, v.2.2.1, v.2.2.2⟩) rfl (fun v => rfl) (fun _ _ _ => trivial)
def EffG (w : World) (e : Eff) : Prop := StrG w e.data
theorem opn_eff : Opn Tryd.prog encEff 42 EffG :=
  opn_iso (E := encPair encI (encPair encI (encPair encI (encPair encI (encPair encI (encPair encS encI)))))) (opn_struct Tryd.underlying42 (by kernel_rfl) (opnL_cons rfl opn_i (opnL_cons rfl opn_i (opnL_cons rfl opn_i (opnL_cons rfl opn_i (opnL_cons rfl opn_i (opnL_cons rfl opn_str (opnL_one rfl opn_i)))))))) (fun v => ⟨v.1, v.2.1, v.2.2.1, v.2.2.2.1, v.2.2.2.2.1, v.2.2.2.2.2.1, v.2.2.2.2.2.2⟩) rfl (fun v => rfl) (fun w v h => h.2.2.2.2.2.1)
def ResG (w : World) (r : Res) : Prop := SlG encS 16 StrG w r.names
theorem opn_res : Opn Tryd.prog encRes 45 ResG :=
  opn_iso (E := encPair encI (encPair encS (encPair encI (encPair (encSl ByteArray) (encPair encI encI))))) (opn_struct Tryd.underlying45 (by kernel_rfl) (opnL_cons rfl opn_e (opnL_cons rfl opn_str (opnL_cons rfl opn_i (opnL_cons rfl opn_strs (opnL_cons rfl opn_i (opnL_one rfl opn_i))))))) (fun v => ⟨v.1, v.2.1, v.2.2.1, v.2.2.2.1, v.2.2.2.2.1, v.2.2.2.2.2⟩) rfl (fun v => rfl) (fun w v h => h.2.2.2.1)
def StpG (w : World) (s : Stp) : Prop := ResG w s.res ∧ EffG w s.eff
theorem opn_stp : Opn Tryd.prog encStp 47 StpG :=
  opn_iso (E := encPair encRes encEff) (opn_struct Tryd.underlying47 (by kernel_rfl) (opnL_cons rfl opn_res (opnL_one rfl opn_eff))) (fun v => ⟨v.1, v.2⟩) rfl (fun v => rfl) (fun w v h => h)
def encPl : Enc (Sl Slt × Sl Stp) := encPair (encSl Slt) (encSl Stp)
def PlG (w : World) (x : Sl Slt × Sl Stp) : Prop := SlG encSlt 32 (fun _ _ => True) w x.1 ∧ SlG encStp 136 StpG w x.2
theorem open_execApplies_0 : Opn Tryd.prog encPl 25 PlG :=
  opn_iso (E := encPair (encSl Slt) (encSl Stp)) (opn_struct Tryd.underlying25 (by kernel_rfl) (opnL_cons rfl (opn_slice (B := 32) Tryd.underlying22 (by kernel_rfl) (by kernel_rfl) opn_slt) (opnL_one rfl (opn_slice (B := 136) Tryd.underlying23 (by kernel_rfl) (by kernel_rfl) opn_stp)))) id rfl (fun v => rfl) (fun w v h => h)
theorem open_execApplies_1 : Opn Tryd.prog (encSl ByteArray) 26 (SlG encS 16 StrG) := opn_strs
theorem tab_of_laid {P : Program} {W : World} {name : String} {k : IntKind} {zs : List Int} {laid : List (String × DataW Unit)} {g : Nat} {t e : TypeId} {n : Nat} (hg : P.globalNamed name = some g) (hty : (P.globals[g]?).map (·.type) = some t) (ht : P.underlying t = some (.array n e)) (he : P.underlying e = some (.int k)) (hce : P.cellsOf e = 1) (hct : P.cellsOf t = n)
    (h : laidMet P laid W) (hm : (name, (Lib.tabData k zs : DataW Unit)) ∈ laid) : Lib.TabIs P W name k zs := by
  obtain ⟨g', t', cs, fuel, p, hg', ht', hvar, hd⟩ := Lib.laidMet.reads h hm
  obtain rfl := Option.some.inj (hg.symm.trans hg')
  obtain rfl := Option.some.inj (hty.symm.trans ht')
  unfold Lib.TabIs
  rw [hvar, ← Lib.cells_of_tab ht he hce hct hd]
theorem execApplies_calls (x0 : Sl Slt × Sl Stp) (x1 : Sl ByteArray) (w : World) (hL : laidMetH Tryd.prog Rows.execAppliesRow.laid w) (g0 : PlG w x0) (g1 : SlG encS 16 StrG w x1) :
    Calls Tryd.prog 3 #[.agg (encPl.cells x0).toArray, .slice x1.A x1.xs.length x1.c] w fun e w' => e = .returned (.bool true) ∧ Below w.heap.size w w' := by
  have hL' : laidMet Tryd.prog Rows.execAppliesRow.laid w := by
    rw [Go.MakeChecks.laidMetH_plain _ _ _ (by kernel_rfl)] at hL
    exact hL
  have htab : Lib.TabIs Tryd.prog w "internal/strconv.uint64pow10" .u64 Lib.pow10Tab := tab_of_laid (g := 0) (t := 100) (e := 91) (n := 20) (by kernel_rfl) (by kernel_rfl) (by kernel_rfl) (by kernel_rfl) (by kernel_rfl) (by kernel_rfl) hL' (.tail _ (.tail _ (.head _)))
  exact (execApplies_spec x0.1.A x0.2.A x1.A x0.1.c x0.2.c x1.c x0.1.xs x0.2.xs x1.xs g0.1.2.2.1 g0.2.2.2.1 g1.2.2.1 (fun s h => (g0.2.2.2.2.2 s h).1.2.2.1) (fun s h => (g0.2.2.2.2.2 s h).2) (fun s h => g1.2.2.2.2 s h)).law w ⟨htab, g0.1.1.ro, g0.2.1.ro, g1.1.ro, fun s h => (g0.2.2.2.2.2 s h).1.1.ro⟩
end Go.Proofs.YtcoohckdnefacaaDoor.S
