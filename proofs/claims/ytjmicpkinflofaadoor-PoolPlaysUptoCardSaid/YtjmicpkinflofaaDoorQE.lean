/- pool: places, marks, pairs of lists -/
import Derived.Test.YtjmicpkinflofaaDoorQD
import Derived.Test.YtjmicpkinflofaaDoorS22
import Derived.Test.YtjmicpkinflofaaDoorS24
import Derived.Test.YtjmicpkinflofaaDoorS25
namespace Go.Proofs.YtjmicpkinflofaaDoor.S
open Go.RowKit
set_option linter.unusedVariables false
set_option linter.unusedSimpArgs false
set_option maxRecDepth 100000
set_option maxHeartbeats 4000000
set_option synthInstance.maxHeartbeats 400000
set_option synthInstance.maxSize 4000
attribute [local irreducible] wpList Code.wp Exit.then Exit.inBlock stillR bodyPost hR J Back Mid
def plF (n : Int) : Nat := (n % 3).toNat
theorem plF_lt (n : Int) : plF n < 3 := by unfold plF; omega
theorem place_spec (n : Int) : Spec Tryd.prog 6 [.int .i64 n] [] (fun _ => True) (fun v L => v = .int .i64 (plF n : Int) ∧ L = []) := by
  refine spec_of Tryd.func6 rfl Tryd.ntmps6 fun F hF => ?_
  have h1 := tmod_range n 3 (by omega)
  obtain ⟨h2, h3⟩ := tmod_clip n 3 (by omega)
  have hj : Ft ((3 : Int) ≠ 0) := ⟨by omega⟩
  repeat (first | refine j_addN (by omega) rfl ?_ | refine j_subN (by omega) rfl ?_ | refine j_addI (by omega) (by omega) rfl ?_ | refine j_subI (by omega) (by omega) rfl ?_ | refine j_op rfl ?_ | refine j_pickF rfl ?_ | refine j_pickT rfl ?_ | refine j_region ?_ | refine j_nil ?_ | refine j_then ?_ | refine j_mono (by assumption) ?_ | (refine j_seq fun K hK => ?_) | refine j_gdo rfl ?_ | refine j_gskip_t rfl ?_ | refine j_gskip_f rfl ?_ | refine j_gskip_u rfl ?_ | refine j_gspec rfl ?_ | refine j_block ?_ | refine j_ret ?_ | refine j_then_ret ?_ | refine j_in_ret ?_ | refine j_in_normal ?_ | refine j_exit ?_ | refine j_then_exit ?_ | refine j_in_exit ?_ | refine j_in_past ?_ | refine j_skip ?_ | refine j_cond_t ?_ | refine j_cond_f ?_ | refine j_store rfl ?_ | refine j_still_nil ?_)
  (first | refine j_done (.inl rfl) ?_ | refine j_done (.inr rfl) ?_ | refine j_doneM (.inl rfl) ?_ | refine j_doneM (.inr rfl) ?_)
  refine ⟨_, ⟨?_, rfl⟩, LE.nil⟩
  congr 1
  have h4 : (n.tmod 3 + 3).tmod 3 = (n.tmod 3 + 3) % 3 := Int.tmod_eq_emod_of_nonneg (by omega)
  rw [h4]
  unfold plF
  by_cases hn : n.tmod 3 < 0
  · have := (h2 hn).1
    omega
  · have := h3 hn
    omega
theorem mark_spec (b : Nat) (p0 p1 p2 r0 r1 r2 bk : Value) (m : Int) (hm : -9223372036854775808 ≤ m ∧ m ≤ 9223372036854775807) : Spec Tryd.prog 63 [ptr b 0] [cells b 0 [p0, p1, p2, r0, r1, r2, bk, .int .i64 m]] Tab (fun v L => ∃ o n m', (-9223372036854775808 ≤ m' ∧ m' ≤ 9223372036854775807) ∧ v = .tuple #[objV o, .int .i64 n] ∧ L = [cells b 0 [p0, p1, p2, r0, r1, r2, bk, .int .i64 m']]) := by
  unfold ptr
  refine spec_of Tryd.func63 rfl Tryd.ntmps63 fun F hF => ?_
  have tab : Tab F := hF
  have hr := wrap_range (m + 1)
  have hsz := itoaB_size (IntKind.i64.wrap (m + 1)) hr.1 hr.2
  have hit := itoa_spec (IntKind.i64.wrap (m + 1)) hr.1 hr.2
  repeat (first | refine j_addN (by omega) rfl ?_ | refine j_subN (by omega) rfl ?_ | refine j_addI (by omega) (by omega) rfl ?_ | refine j_subI (by omega) (by omega) rfl ?_ | refine j_op rfl ?_ | refine j_pickF rfl ?_ | refine j_pickT rfl ?_ | refine j_region ?_ | refine j_nil ?_ | refine j_then ?_ | refine j_mono (by assumption) ?_ | (refine j_seq fun K hK => ?_) | refine j_gdo rfl ?_ | refine j_gskip_t rfl ?_ | refine j_gskip_f rfl ?_ | refine j_gskip_u rfl ?_ | refine j_gspec rfl ?_ | refine j_block ?_ | refine j_ret ?_ | refine j_then_ret ?_ | refine j_in_ret ?_ | refine j_in_normal ?_ | refine j_exit ?_ | refine j_then_exit ?_ | refine j_in_exit ?_ | refine j_in_past ?_ | refine j_skip ?_ | refine j_cond_t ?_ | refine j_cond_f ?_ | refine j_store rfl ?_ | refine j_still_nil ?_)
  refine j_alloc rfl fun bo => ?_
  repeat (first | refine j_addN (by omega) rfl ?_ | refine j_subN (by omega) rfl ?_ | refine j_addI (by omega) (by omega) rfl ?_ | refine j_subI (by omega) (by omega) rfl ?_ | refine j_op rfl ?_ | refine j_pickF rfl ?_ | refine j_pickT rfl ?_ | refine j_region ?_ | refine j_nil ?_ | refine j_then ?_ | refine j_mono (by assumption) ?_ | (refine j_seq fun K hK => ?_) | refine j_gdo rfl ?_ | refine j_gskip_t rfl ?_ | refine j_gskip_f rfl ?_ | refine j_gskip_u rfl ?_ | refine j_gspec rfl ?_ | refine j_block ?_ | refine j_ret ?_ | refine j_then_ret ?_ | refine j_in_ret ?_ | refine j_in_normal ?_ | refine j_exit ?_ | refine j_then_exit ?_ | refine j_in_exit ?_ | refine j_in_past ?_ | refine j_skip ?_ | refine j_cond_t ?_ | refine j_cond_f ?_ | refine j_store rfl ?_ | refine j_still_nil ?_)
  generalize IntKind.i64.wrap (m + 1) = m' at *
  have hcat : Ft ((⟨#[109, 97, 114, 107, 32]⟩ : ByteArray).size + (itoaB m').size ≤ 9223372036854775807) := ⟨by show 5 + _ ≤ _; omega⟩
  repeat (first | refine j_addN (by omega) rfl ?_ | refine j_subN (by omega) rfl ?_ | refine j_addI (by omega) (by omega) rfl ?_ | refine j_subI (by omega) (by omega) rfl ?_ | refine j_op rfl ?_ | refine j_pickF rfl ?_ | refine j_pickT rfl ?_ | refine j_region ?_ | refine j_nil ?_ | refine j_then ?_ | refine j_mono (by assumption) ?_ | (refine j_seq fun K hK => ?_) | refine j_gdo rfl ?_ | refine j_gskip_t rfl ?_ | refine j_gskip_f rfl ?_ | refine j_gskip_u rfl ?_ | refine j_gspec rfl ?_ | refine j_block ?_ | refine j_ret ?_ | refine j_then_ret ?_ | refine j_in_ret ?_ | refine j_in_normal ?_ | refine j_exit ?_ | refine j_then_exit ?_ | refine j_in_exit ?_ | refine j_in_past ?_ | refine j_skip ?_ | refine j_cond_t ?_ | refine j_cond_f ?_ | refine j_store rfl ?_ | refine j_still_nil ?_)
  refine j_region_hoist (.q 0 (.q 1 (.q 2 (.q 3 (.q 7 (.q 8 (.q 9 (.q 10 (.q 11 (.alt 4 (.q 5 (.q 6 (.alt 12 (.q 13 .done) .no))) .no)))))))))) [cells b 0 [p0, p1, p2, r0, r1, r2, bk, .int .i64 m']] mixed (by kernel_rfl) (by kernel_rfl) (LE.sub (by (repeat' (first | exact Pick.here | apply Pick.there | apply Picks.cons | exact Picks.nil)))) fun hLE => ?_
  simp only [lay, List.getD_cons_zero, List.getD_cons_succ]
  repeat (first | refine j_hq (by assumption) rfl ?_ | refine j_hq_pickF (by assumption) rfl ?_ | refine j_hq_pickT (by assumption) rfl ?_ | refine j_hq_gdo (by assumption) rfl ?_ | refine j_hq_gskip_t (by assumption) rfl ?_ | refine j_hq_gskip_f (by assumption) rfl ?_ | refine j_hq_gskip_u (by assumption) rfl ?_ | refine j_hq_gspec (by assumption) rfl ?_)
  refine j_he ?_
  refine j_call hit rfl .nil (fun F' hF' => tab.ext hF') ?_
  rintro _ _ ⟨rfl, rfl⟩
  simp only [List.cons_append, List.nil_append]
  repeat (first | refine j_addN (by omega) rfl ?_ | refine j_subN (by omega) rfl ?_ | refine j_addI (by omega) (by omega) rfl ?_ | refine j_subI (by omega) (by omega) rfl ?_ | refine j_op rfl ?_ | refine j_pickF rfl ?_ | refine j_pickT rfl ?_ | refine j_region ?_ | refine j_nil ?_ | refine j_then ?_ | refine j_mono (by assumption) ?_ | (refine j_seq fun K hK => ?_) | refine j_gdo rfl ?_ | refine j_gskip_t rfl ?_ | refine j_gskip_f rfl ?_ | refine j_gskip_u rfl ?_ | refine j_gspec rfl ?_ | refine j_block ?_ | refine j_ret ?_ | refine j_then_ret ?_ | refine j_in_ret ?_ | refine j_in_normal ?_ | refine j_exit ?_ | refine j_then_exit ?_ | refine j_in_exit ?_ | refine j_in_past ?_ | refine j_skip ?_ | refine j_cond_t ?_ | refine j_cond_f ?_ | refine j_store rfl ?_ | refine j_still_nil ?_)
  (refine j_hn (LE.sub (by (repeat' (first | exact Pick.here | apply Pick.there | apply Picks.cons | exact Picks.nil)))) fun hLE => ?_)
  repeat (first | refine j_hq (by assumption) rfl ?_ | refine j_hq_pickF (by assumption) rfl ?_ | refine j_hq_pickT (by assumption) rfl ?_ | refine j_hq_gdo (by assumption) rfl ?_ | refine j_hq_gskip_t (by assumption) rfl ?_ | refine j_hq_gskip_f (by assumption) rfl ?_ | refine j_hq_gskip_u (by assumption) rfl ?_ | refine j_hq_gspec (by assumption) rfl ?_)
  refine j_he ?_
  repeat (first | refine j_addN (by omega) rfl ?_ | refine j_subN (by omega) rfl ?_ | refine j_addI (by omega) (by omega) rfl ?_ | refine j_subI (by omega) (by omega) rfl ?_ | refine j_op rfl ?_ | refine j_pickF rfl ?_ | refine j_pickT rfl ?_ | refine j_region ?_ | refine j_nil ?_ | refine j_then ?_ | refine j_mono (by assumption) ?_ | (refine j_seq fun K hK => ?_) | refine j_gdo rfl ?_ | refine j_gskip_t rfl ?_ | refine j_gskip_f rfl ?_ | refine j_gskip_u rfl ?_ | refine j_gspec rfl ?_ | refine j_block ?_ | refine j_ret ?_ | refine j_then_ret ?_ | refine j_in_ret ?_ | refine j_in_normal ?_ | refine j_exit ?_ | refine j_then_exit ?_ | refine j_in_exit ?_ | refine j_in_past ?_ | refine j_skip ?_ | refine j_cond_t ?_ | refine j_cond_f ?_ | refine j_store rfl ?_ | refine j_still_nil ?_)
  (refine j_hn (LE.sub (by (repeat' (first | exact Pick.here | apply Pick.there | apply Picks.cons | exact Picks.nil)))) fun hLE => ?_)
  repeat (first | refine j_hq (by assumption) rfl ?_ | refine j_hq_pickF (by assumption) rfl ?_ | refine j_hq_pickT (by assumption) rfl ?_ | refine j_hq_gdo (by assumption) rfl ?_ | refine j_hq_gskip_t (by assumption) rfl ?_ | refine j_hq_gskip_f (by assumption) rfl ?_ | refine j_hq_gskip_u (by assumption) rfl ?_ | refine j_hq_gspec (by assumption) rfl ?_)
  refine j_hend ?_
  repeat (first | refine j_addN (by omega) rfl ?_ | refine j_subN (by omega) rfl ?_ | refine j_addI (by omega) (by omega) rfl ?_ | refine j_subI (by omega) (by omega) rfl ?_ | refine j_op rfl ?_ | refine j_pickF rfl ?_ | refine j_pickT rfl ?_ | refine j_region ?_ | refine j_nil ?_ | refine j_then ?_ | refine j_mono (by assumption) ?_ | (refine j_seq fun K hK => ?_) | refine j_gdo rfl ?_ | refine j_gskip_t rfl ?_ | refine j_gskip_f rfl ?_ | refine j_gskip_u rfl ?_ | refine j_gspec rfl ?_ | refine j_block ?_ | refine j_ret ?_ | refine j_then_ret ?_ | refine j_in_ret ?_ | refine j_in_normal ?_ | refine j_exit ?_ | refine j_then_exit ?_ | refine j_in_exit ?_ | refine j_in_past ?_ | refine j_skip ?_ | refine j_cond_t ?_ | refine j_cond_f ?_ | refine j_store rfl ?_ | refine j_still_nil ?_)
  (first | refine j_done (.inl rfl) ?_ | refine j_done (.inr rfl) ?_ | refine j_doneM (.inl rfl) ?_ | refine j_doneM (.inr rfl) ?_)
  exact ⟨_, ⟨⟨_, bE, 0, 0⟩, _, m', hr, rfl, rfl⟩, (LE.sub (by (repeat' (first | exact Pick.here | apply Pick.there | apply Picks.cons | exact Picks.nil))))⟩
end Go.Proofs.YtjmicpkinflofaaDoor.S
