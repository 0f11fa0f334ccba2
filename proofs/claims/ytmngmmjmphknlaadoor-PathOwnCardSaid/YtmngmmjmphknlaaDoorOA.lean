/- path.Text by the S engine -/
import Derived.Test.YtmngmmjmphknlaaDoorTC
namespace Go.Proofs.YtmngmmjmphknlaaDoor.S
open Go.RowKit
set_option linter.unusedVariables false
set_option linter.unusedSimpArgs false
set_option maxRecDepth 100000
set_option maxHeartbeats 4000000
set_option synthInstance.maxHeartbeats 400000
set_option synthInstance.maxSize 4000
attribute [local irreducible] wpList Code.wp Exit.then Exit.inBlock stillR bodyPost hR J Back Mid
def joinS (l : List ByteArray) : ByteArray := ⟨(Lib.join (l.map (·.data.toList)) [47]).toArray⟩
theorem cell_lt {w : World} {b o : Nat} {v : Value} (h : w.cell? ⟨b, o, none⟩ = some v) : b < w.heap.size := World.block_lt_of_cell? w ⟨b, o, none⟩ h
theorem RO.cellAt {F : Fr} {A : Option Addr} {l : List ByteArray} {w : World} (r : RO F encS A l) (hs : Sat [] F w) {j : Nat} {x : ByteArray} (hx : l[j]? = some x) : w.cell? ⟨ablk A, aoff A + j, none⟩ = some (.string x) :=
  hs.cellOf fun {k} hk hd => by
    obtain ⟨fr, h⟩ := r.out.get j x 0 (.string x) hx rfl
    refine ⟨fr, ?_⟩
    rw [show k = Heap.emp from hk, Heap.emp_un]
    have e : j * encS.sz + 0 = j := by show j * 1 + 0 = j; omega
    rw [e] at h
    exact h
theorem join_spec (A : Option Addr) (c : Nat) (l : List ByteArray) (hc : l.length ≤ c) (hl : l.length ≤ 140737488355328) (hj : (Lib.join (l.map (·.data.toList)) [47]).length ≤ 140737488355328) : Spec Tryd.prog 23 [.slice A l.length c, .string ⟨#[47]⟩] [] (fun F => RO F encS A l) (fun v L => v = .string (joinS l) ∧ L = []) :=
  spec_of_below fun F w hR hs => by
    by_cases hn : l = []
    · subst hn
      refine (Tryd.strings_Join_none A c ⟨#[47]⟩ w).mono ?_
      rintro e w' ⟨rfl, rfl⟩
      exact ⟨_, [], rfl, ⟨rfl, rfl⟩, Below.refl _ _, fun h => h⟩
    · have hA := hR.out.fst hn
      have h0 : l[0]? = some (l.head hn) := by cases l with | nil => exact absurd rfl hn | cons a t => rfl
      rw [hA]
      refine (Tryd.strings_Join (ablk A) (aoff A) c l ⟨#[47]⟩ w (fun j x hx => hR.cellAt hs hx) (cell_lt (hR.cellAt hs h0)) hl hc hj).mono ?_
      rintro e w' ⟨rfl, hb⟩
      exact ⟨_, [], rfl, ⟨rfl, rfl⟩, hb, fun h => h⟩
def textF (l : List ByteArray) : ByteArray × Int := if checkedE l = 0 then (⟨#[47]⟩ ++ joinS l, 0) else (⟨#[]⟩, checkedE l)
theorem text_spec (A : Option Addr) (c : Nat) (l : List ByteArray) (hc : l.length ≤ c) (hl : l.length ≤ 140737488355328) (hj : checkedE l = 0 → (Lib.join (l.map (·.data.toList)) [47]).length ≤ 10000) : Spec Tryd.prog 14 [.slice A l.length c] [] (fun F => RO F encS A l) (fun v L => v = .tuple #[.string (textF l).1, .int .i64 (textF l).2] ∧ L = []) := by
  generalize hr : textF l = r
  unfold textF at hr
  refine spec_of Tryd.func14 rfl Tryd.ntmps14 fun F hF => ?_
  have ro := hF
  repeat (first | refine j_addN (by omega) rfl ?_ | refine j_subN (by omega) rfl ?_ | refine j_mulN (by omega) rfl ?_ | refine j_remN (by omega) rfl ?_ | refine j_addI (by omega) (by omega) rfl ?_ | refine j_subI (by omega) (by omega) rfl ?_ | refine j_op rfl ?_ | refine j_pickF rfl ?_ | refine j_pickT rfl ?_ | refine j_region ?_ | refine j_nil ?_ | refine j_then ?_ | refine j_mono (by assumption) ?_ | (refine j_seq fun K hK => ?_) | refine j_gdo rfl ?_ | refine j_gskip_t rfl ?_ | refine j_gskip_f rfl ?_ | refine j_gskip_u rfl ?_ | refine j_gspec rfl ?_ | refine j_block ?_ | refine j_ret ?_ | refine j_then_ret ?_ | refine j_in_ret ?_ | refine j_in_normal ?_ | refine j_exit ?_ | refine j_then_exit ?_ | refine j_in_exit ?_ | refine j_in_past ?_ | refine j_skip ?_ | refine j_cond_t ?_ | refine j_cond_f ?_ | refine j_store rfl ?_ | refine j_still_nil ?_ | (refine j_buildSlice rfl rfl rfl rfl fun bx => ?_) | (refine j_alloc rfl fun bx => ?_) | (refine j_box rfl fun bx => ?_))
  refine j_call (checked_spec A c l (by omega)) rfl .nil (fun F' hF' => ro.ext hF') ?_
  rintro _ _ ⟨rfl, rfl⟩
  simp only [List.cons_append, List.nil_append]
  generalize checkedE l = er at *
  by_cases c5 : er = 0
  · have d5 : Dec (er ≠ 0) false := dec_f (by omega)
    rw [if_pos c5] at hr
    subst hr
    repeat (first | refine j_addN (by omega) rfl ?_ | refine j_subN (by omega) rfl ?_ | refine j_mulN (by omega) rfl ?_ | refine j_remN (by omega) rfl ?_ | refine j_addI (by omega) (by omega) rfl ?_ | refine j_subI (by omega) (by omega) rfl ?_ | refine j_op rfl ?_ | refine j_pickF rfl ?_ | refine j_pickT rfl ?_ | refine j_region ?_ | refine j_nil ?_ | refine j_then ?_ | refine j_mono (by assumption) ?_ | (refine j_seq fun K hK => ?_) | refine j_gdo rfl ?_ | refine j_gskip_t rfl ?_ | refine j_gskip_f rfl ?_ | refine j_gskip_u rfl ?_ | refine j_gspec rfl ?_ | refine j_block ?_ | refine j_ret ?_ | refine j_then_ret ?_ | refine j_in_ret ?_ | refine j_in_normal ?_ | refine j_exit ?_ | refine j_then_exit ?_ | refine j_in_exit ?_ | refine j_in_past ?_ | refine j_skip ?_ | refine j_cond_t ?_ | refine j_cond_f ?_ | refine j_store rfl ?_ | refine j_still_nil ?_ | (refine j_buildSlice rfl rfl rfl rfl fun bx => ?_) | (refine j_alloc rfl fun bx => ?_) | (refine j_box rfl fun bx => ?_))
    refine j_call (join_spec A c l hc hl (by have := hj c5; omega)) rfl .nil (fun F' hF' => ro.ext hF') ?_
    rintro _ _ ⟨rfl, rfl⟩
    simp only [List.cons_append, List.nil_append]
    have f1 : Ft ((⟨#[47]⟩ : ByteArray).size + (joinS l).size ≤ 9223372036854775807) := ⟨by
      have h1 : (joinS l).size = (Lib.join (l.map (·.data.toList)) [47]).length := by unfold joinS; simp [ByteArray.size]
      have h2 : (⟨#[47]⟩ : ByteArray).size = 1 := rfl
      have := hj c5
      omega⟩
    repeat (first | refine j_addN (by omega) rfl ?_ | refine j_subN (by omega) rfl ?_ | refine j_mulN (by omega) rfl ?_ | refine j_remN (by omega) rfl ?_ | refine j_addI (by omega) (by omega) rfl ?_ | refine j_subI (by omega) (by omega) rfl ?_ | refine j_op rfl ?_ | refine j_pickF rfl ?_ | refine j_pickT rfl ?_ | refine j_region ?_ | refine j_nil ?_ | refine j_then ?_ | refine j_mono (by assumption) ?_ | (refine j_seq fun K hK => ?_) | refine j_gdo rfl ?_ | refine j_gskip_t rfl ?_ | refine j_gskip_f rfl ?_ | refine j_gskip_u rfl ?_ | refine j_gspec rfl ?_ | refine j_block ?_ | refine j_ret ?_ | refine j_then_ret ?_ | refine j_in_ret ?_ | refine j_in_normal ?_ | refine j_exit ?_ | refine j_then_exit ?_ | refine j_in_exit ?_ | refine j_in_past ?_ | refine j_skip ?_ | refine j_cond_t ?_ | refine j_cond_f ?_ | refine j_store rfl ?_ | refine j_still_nil ?_ | (refine j_buildSlice rfl rfl rfl rfl fun bx => ?_) | (refine j_alloc rfl fun bx => ?_) | (refine j_box rfl fun bx => ?_))
    (first | refine j_done (.inl rfl) ?_ | refine j_done (.inr rfl) ?_ | refine j_doneM (.inl rfl) ?_ | refine j_doneM (.inr rfl) ?_)
    exact ⟨_, ⟨rfl, rfl⟩, LE.nil⟩
  · have d5 : Dec (er ≠ 0) true := dec_t c5
    rw [if_neg c5] at hr
    subst hr
    repeat (first | refine j_addN (by omega) rfl ?_ | refine j_subN (by omega) rfl ?_ | refine j_mulN (by omega) rfl ?_ | refine j_remN (by omega) rfl ?_ | refine j_addI (by omega) (by omega) rfl ?_ | refine j_subI (by omega) (by omega) rfl ?_ | refine j_op rfl ?_ | refine j_pickF rfl ?_ | refine j_pickT rfl ?_ | refine j_region ?_ | refine j_nil ?_ | refine j_then ?_ | refine j_mono (by assumption) ?_ | (refine j_seq fun K hK => ?_) | refine j_gdo rfl ?_ | refine j_gskip_t rfl ?_ | refine j_gskip_f rfl ?_ | refine j_gskip_u rfl ?_ | refine j_gspec rfl ?_ | refine j_block ?_ | refine j_ret ?_ | refine j_then_ret ?_ | refine j_in_ret ?_ | refine j_in_normal ?_ | refine j_exit ?_ | refine j_then_exit ?_ | refine j_in_exit ?_ | refine j_in_past ?_ | refine j_skip ?_ | refine j_cond_t ?_ | refine j_cond_f ?_ | refine j_store rfl ?_ | refine j_still_nil ?_ | (refine j_buildSlice rfl rfl rfl rfl fun bx => ?_) | (refine j_alloc rfl fun bx => ?_) | (refine j_box rfl fun bx => ?_))
    (first | refine j_done (.inl rfl) ?_ | refine j_done (.inr rfl) ?_ | refine j_doneM (.inl rfl) ?_ | refine j_doneM (.inr rfl) ?_)
    exact ⟨_, ⟨rfl, rfl⟩, LE.nil⟩
theorem num_spec (e : Int) : Spec Tryd.prog 5 [.int .i64 e] [] (fun _ => True) (fun v L => v = .int .i64 e ∧ L = []) := by
  refine spec_of Tryd.func5 rfl Tryd.ntmps5 fun F hF => ?_
  repeat (first | refine j_addN (by omega) rfl ?_ | refine j_subN (by omega) rfl ?_ | refine j_mulN (by omega) rfl ?_ | refine j_remN (by omega) rfl ?_ | refine j_addI (by omega) (by omega) rfl ?_ | refine j_subI (by omega) (by omega) rfl ?_ | refine j_op rfl ?_ | refine j_pickF rfl ?_ | refine j_pickT rfl ?_ | refine j_region ?_ | refine j_nil ?_ | refine j_then ?_ | refine j_mono (by assumption) ?_ | (refine j_seq fun K hK => ?_) | refine j_gdo rfl ?_ | refine j_gskip_t rfl ?_ | refine j_gskip_f rfl ?_ | refine j_gskip_u rfl ?_ | refine j_gspec rfl ?_ | refine j_block ?_ | refine j_ret ?_ | refine j_then_ret ?_ | refine j_in_ret ?_ | refine j_in_normal ?_ | refine j_exit ?_ | refine j_then_exit ?_ | refine j_in_exit ?_ | refine j_in_past ?_ | refine j_skip ?_ | refine j_cond_t ?_ | refine j_cond_f ?_ | refine j_store rfl ?_ | refine j_still_nil ?_ | (refine j_buildSlice rfl rfl rfl rfl fun bx => ?_) | (refine j_alloc rfl fun bx => ?_) | (refine j_box rfl fun bx => ?_))
  (first | refine j_done (.inl rfl) ?_ | refine j_done (.inr rfl) ?_ | refine j_doneM (.inl rfl) ?_ | refine j_doneM (.inr rfl) ?_)
  exact ⟨_, ⟨rfl, rfl⟩, LE.nil⟩
end Go.Proofs.YtmngmmjmphknlaaDoor.S
