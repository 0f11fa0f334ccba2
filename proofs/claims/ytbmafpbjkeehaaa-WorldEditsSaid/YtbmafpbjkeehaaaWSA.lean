/- world: how the trace grows -/
import Derived.Test.YtbmafpbjkeehaaaWR
namespace Go.Proofs.Ytbmafpbjkeehaaa.S
open Go.RowKit
set_option linter.unusedVariables false
set_option linter.unusedSimpArgs false
set_option maxRecDepth 100000
set_option maxHeartbeats 4000000
def NmOK (σ : Wd) : Prop := ∀ c ∈ σ.trace, c.names.length ≤ 2100000000000
theorem burn_idle {σ : Wd} (h : σ.left = 0) : burnW σ = σ := by unfold burnW; rw [if_neg (by omega)]
theorem end_trace {σ : Wd} {c : CP} : (endW σ c).trace = σ.trace ++ [c] := by unfold endW; rw [burnW_trace]
theorem ready_off {σ : Wd} {l : List ByteArray} (h : σ.off = true) : readyE σ l ≠ 0 := by unfold readyE; rw [if_pos h]; decide
/-- By how much a step makes the trace longer. -/
theorem do_trace (σ : Wd) (o : WOp) (hn : σ.objs.length ≤ 2100000000000) : ∃ cs : List CP, (doW σ o).trace = σ.trace ++ cs ∧ cs.length ≤ 1 ∧ (σ.off = true → cs = []) ∧ ∀ c ∈ cs, c.names.length ≤ 2100000000000 := by
  have nil : ∀ τ : Wd, τ.trace = σ.trace → ∃ cs : List CP, τ.trace = σ.trace ++ cs ∧ cs.length ≤ 1 ∧ (σ.off = true → cs = []) ∧ ∀ c ∈ cs, c.names.length ≤ 2100000000000 := fun τ h => ⟨[], by rw [h, List.append_nil], by simp, fun _ => rfl, fun c hc => by cases hc⟩
  have one : ∀ (τ : Wd) (c : CP) (l : List ByteArray), readyE σ l = 0 → τ.trace = σ.trace → c.names.length ≤ 2100000000000 → ∃ cs : List CP, (endW τ c).trace = σ.trace ++ cs ∧ cs.length ≤ 1 ∧ (σ.off = true → cs = []) ∧ ∀ c ∈ cs, c.names.length ≤ 2100000000000 := fun τ c l hr h hc => ⟨[c], by rw [end_trace, h], by simp, fun ho => absurd hr (ready_off ho), fun d hd => by simp at hd; subst hd; exact hc⟩
  unfold doW
  by_cases c4 : o.kind = 4
  · rw [if_pos c4]
    unfold getW
    split
    · rename_i hr
      exact one _ _ _ hr rfl (by simp)
    · exact nil _ rfl
  rw [if_neg c4]
  by_cases c5 : o.kind = 5
  · rw [if_pos c5]
    unfold putW
    split
    · rename_i hr
      split
      · exact one _ _ _ hr rfl (by simp)
      · exact nil _ rfl
    · exact nil _ rfl
  rw [if_neg c5]
  by_cases c6 : o.kind = 6
  · rw [if_pos c6]
    unfold delW
    split
    · rename_i hr
      exact one _ _ _ hr (by rw [dropW_trace]; rfl) (by simp)
    · exact nil _ rfl
  rw [if_neg c6]
  by_cases c7 : o.kind = 7
  · rw [if_pos c7]
    unfold listW
    split
    · rename_i hr
      exact one _ _ _ hr rfl (by show (namesW σ).length ≤ _; rw [namesW_len]; exact hn)
    · exact nil _ rfl
  rw [if_neg c7]
  split
  · unfold loadW
    split
    · exact nil _ burnW_trace
    · exact nil _ rfl
  split
  · unfold pendW
    split
    · split
      · exact nil _ burnW_trace
      · exact nil _ rfl
    · exact nil _ rfl
  split
  · unfold commitW
    split
    · exact nil _ burnW_trace
    · exact nil _ rfl
  split
  · unfold forgetW
    split
    · exact nil _ burnW_trace
    · exact nil _ rfl
  split
  · unfold stopW
    split
    · exact nil _ burnW_trace
    · exact nil _ rfl
  split
  · unfold armW
    split
    · exact nil _ rfl
    · exact nil _ rfl
  split
  · exact nil _ rfl
  · exact nil _ rfl
theorem nm_do {σ : Wd} (o : WOp) (hn : σ.objs.length ≤ 2100000000000) (h : NmOK σ) : NmOK (doW σ o) := by
  obtain ⟨cs, h1, _, _, h4⟩ := do_trace σ o hn
  intro c hc
  rw [h1] at hc
  rcases List.mem_append.1 hc with hc | hc
  · exact h c hc
  · exact h4 c hc
end Go.Proofs.Ytbmafpbjkeehaaa.S
