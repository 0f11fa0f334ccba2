/- WorldFuse -/
import Derived.Test.YtbmafpbjkeehaaaWH
namespace Go.Proofs.Ytbmafpbjkeehaaa.S
open Go.RowKit
set_option linter.unusedVariables false
set_option linter.unusedSimpArgs false
set_option maxRecDepth 100000
set_option maxHeartbeats 4000000
def didP (σ : Wd) (o : WOp) : Prop := ((o.kind = 4 ∨ o.kind = 6) ∧ readyE σ [o.name] = 0) ∨ (o.kind = 5 ∧ readyE σ [o.name] = 0 ∧ o.blob.size ≤ 1048576) ∨ ((o.kind = 7 ∨ o.kind = 8 ∨ o.kind = 10 ∨ o.kind = 11 ∨ o.kind = 12) ∧ readyE σ [] = 0) ∨ (o.kind = 9 ∧ readyE σ [] = 0 ∧ o.name.size = 16)
theorem ready_on {σ : Wd} {l : List ByteArray} (h : readyE σ l = 0) : σ.off = false := by
  unfold readyE at h
  split at h
  · exact absurd h (by decide)
  · rename_i hh; simpa using hh
theorem did_on {σ : Wd} {o : WOp} (h : didP σ o) : σ.off = false := by
  rcases h with ⟨_, h⟩ | ⟨_, h, _⟩ | ⟨_, h⟩ | ⟨_, h, _⟩ <;> exact ready_on h
theorem burn_left {σ τ : Wd} (h1 : σ.left = τ.left) : (burnW σ).left = (burnW τ).left := by
  unfold burnW
  rw [h1]
  split
  · rfl
  · exact h1
theorem burn_off {σ τ : Wd} (h1 : σ.left = τ.left) (h2 : σ.off = τ.off) : (burnW σ).off = (burnW τ).off := by
  unfold burnW
  rw [h1]
  split
  · rfl
  · exact h2
theorem burnW_trace {σ : Wd} : (burnW σ).trace = σ.trace := by unfold burnW; split <;> rfl
theorem dropW_left {σ : Wd} {n : ByteArray} : (dropW σ n).left = σ.left ∧ (dropW σ n).off = σ.off := by unfold dropW; split <;> exact ⟨rfl, rfl⟩
theorem do_did {σ : Wd} {o : WOp} (h : didP σ o) : (doW σ o).left = (burnW σ).left ∧ (doW σ o).off = (burnW σ).off ∧ ((o.kind = 4 ∨ o.kind = 5 ∨ o.kind = 6) → (doW σ o).trace.length = σ.trace.length + 1) := by
  rcases h with ⟨h1, h2⟩ | ⟨h1, h2, h3⟩ | ⟨h1, h2⟩ | ⟨h1, h2, h3⟩
  · rcases h1 with h1 | h1
    · have e : doW σ o = endW (markW σ) ⟨1, o.name, bE, if (mget σ.objs o.name).isSome then 0 else 101, (mget σ.objs o.name).getD bE, []⟩ := by unfold doW getW; rw [if_pos h1, if_pos h2]
      rw [e]
      unfold endW
      exact ⟨burn_left rfl, burn_off rfl rfl, fun _ => by rw [burnW_trace]; simp [markW]⟩
    · have e : doW σ o = endW (dropW (markW σ) o.name) ⟨3, o.name, bE, if (mget σ.objs o.name).isSome then 0 else 101, bE, []⟩ := by unfold doW delW; rw [if_neg (by omega), if_neg (by omega), if_pos h1, if_pos h2]
      rw [e]
      unfold endW
      have hd := dropW_left (σ := markW σ) (n := o.name)
      exact ⟨burn_left hd.1, burn_off hd.1 hd.2, fun _ => by rw [burnW_trace]; simp [dropW_trace, markW]⟩
  · have e : doW σ o = endW { setW (markW σ) o.name o.blob with puts := σ.puts ++ [⟨o.name, o.blob⟩] } ⟨2, o.name, o.blob, 0, bE, []⟩ := by unfold doW putW; rw [if_neg (by omega), if_pos h1, if_pos h2, if_pos h3]
    rw [e]
    unfold endW
    exact ⟨burn_left rfl, burn_off rfl rfl, fun _ => by rw [burnW_trace]; simp [setW, markW]⟩
  · rcases h1 with h1 | h1 | h1 | h1 | h1
    · have e : doW σ o = endW (markW σ) ⟨4, bE, bE, 0, bE, namesW σ⟩ := by unfold doW listW; rw [if_neg (by omega), if_neg (by omega), if_neg (by omega), if_pos h1, if_pos h2]
      rw [e]
      unfold endW
      exact ⟨burn_left rfl, burn_off rfl rfl, fun hh => by omega⟩
    · have e : doW σ o = burnW σ := by unfold doW loadW; rw [if_neg (by omega), if_neg (by omega), if_neg (by omega), if_neg (by omega), if_pos h1, if_pos h2]
      rw [e]
      exact ⟨rfl, rfl, fun hh => by omega⟩
    · have e : doW σ o = burnW { σ with reg := commitR σ.reg } := by unfold doW commitW; rw [if_neg (by omega), if_neg (by omega), if_neg (by omega), if_neg (by omega), if_neg (by omega), if_neg (by omega), if_pos h1, if_pos h2]
      rw [e]
      exact ⟨burn_left rfl, burn_off rfl rfl, fun hh => by omega⟩
    · have e : doW σ o = burnW { σ with reg := ⟨σ.reg.cur, bE, σ.reg.stop⟩ } := by unfold doW forgetW; rw [if_neg (by omega), if_neg (by omega), if_neg (by omega), if_neg (by omega), if_neg (by omega), if_neg (by omega), if_neg (by omega), if_pos h1, if_pos h2]
      rw [e]
      exact ⟨burn_left rfl, burn_off rfl rfl, fun hh => by omega⟩
    · have e : doW σ o = burnW { σ with reg := ⟨σ.reg.cur, σ.reg.pend, true⟩ } := by unfold doW stopW; rw [if_neg (by omega), if_neg (by omega), if_neg (by omega), if_neg (by omega), if_neg (by omega), if_neg (by omega), if_neg (by omega), if_neg (by omega), if_pos h1, if_pos h2]
      rw [e]
      exact ⟨burn_left rfl, burn_off rfl rfl, fun hh => by omega⟩
  · have e : doW σ o = burnW { σ with reg := ⟨σ.reg.cur, o.name, σ.reg.stop⟩ } := by unfold doW pendW; rw [if_neg (by omega), if_neg (by omega), if_neg (by omega), if_neg (by omega), if_neg (by omega), if_pos h1, if_pos h2, if_pos h3]
    rw [e]
    exact ⟨burn_left rfl, burn_off rfl rfl, fun hh => by omega⟩
theorem do_not {σ : Wd} {o : WOp} (hk : 4 ≤ o.kind ∧ o.kind ≤ 12) (h : ¬ didP σ o) : doW σ o = σ := by
  unfold didP at h
  unfold doW
  by_cases c4 : o.kind = 4
  · rw [if_pos c4]; unfold getW; rw [if_neg (fun hh => h (.inl ⟨.inl c4, hh⟩))]
  rw [if_neg c4]
  by_cases c5 : o.kind = 5
  · rw [if_pos c5]; unfold putW
    split
    · rename_i hh
      rw [if_neg (fun hs => h (.inr (.inl ⟨c5, hh, hs⟩)))]
    · rfl
  rw [if_neg c5]
  by_cases c6 : o.kind = 6
  · rw [if_pos c6]; unfold delW; rw [if_neg (fun hh => h (.inl ⟨.inr c6, hh⟩))]
  rw [if_neg c6]
  by_cases c7 : o.kind = 7
  · rw [if_pos c7]; unfold listW; rw [if_neg (fun hh => h (.inr (.inr (.inl ⟨.inl c7, hh⟩))))]
  rw [if_neg c7]
  by_cases c8 : o.kind = 8
  · rw [if_pos c8]; unfold loadW; rw [if_neg (fun hh => h (.inr (.inr (.inl ⟨.inr (.inl c8), hh⟩))))]
  rw [if_neg c8]
  by_cases c9 : o.kind = 9
  · rw [if_pos c9]; unfold pendW
    split
    · rename_i hh
      rw [if_neg (fun hs => h (.inr (.inr (.inr ⟨c9, hh, hs⟩))))]
    · rfl
  rw [if_neg c9]
  by_cases c10 : o.kind = 10
  · rw [if_pos c10]; unfold commitW; rw [if_neg (fun hh => h (.inr (.inr (.inl ⟨.inr (.inr (.inl c10)), hh⟩))))]
  rw [if_neg c10]
  by_cases c11 : o.kind = 11
  · rw [if_pos c11]; unfold forgetW; rw [if_neg (fun hh => h (.inr (.inr (.inl ⟨.inr (.inr (.inr (.inl c11))), hh⟩))))]
  rw [if_neg c11]
  have c12 : o.kind = 12 := by omega
  rw [if_pos c12]; unfold stopW; rw [if_neg (fun hh => h (.inr (.inr (.inl ⟨.inr (.inr (.inr (.inr c12))), hh⟩))))]
/-- What is left of the fuse. -/
def Fuse (k lv : Int) (σ : Wd) : Prop := (k < 0 ∧ lv = k ∧ σ.left = 0 ∧ σ.off = false) ∨ (0 ≤ k ∧ 0 ≤ lv ∧ (σ.left : Int) = lv ∧ σ.off = decide (lv = 0))
theorem fuse_off {k lv : Int} {σ : Wd} (h : Fuse k lv σ) : σ.off = (decide (0 ≤ k) && decide (lv = 0)) := by
  rcases h with ⟨h1, rfl, h2, h3⟩ | ⟨h1, h2, h3, h4⟩
  · rw [h3, decide_eq_false (by omega)]; rfl
  · rw [h4, decide_eq_true h1]; rfl
theorem fuse_did {k lv : Int} {σ : Wd} {o : WOp} (hd : didP σ o) (h : Fuse k lv σ) : Fuse k (if 0 < lv then lv - 1 else lv) (doW σ o) := by
  have hb := do_did hd
  have hon := did_on hd
  rcases h with ⟨h1, h2, h3, h4⟩ | ⟨h1, h2, h3, h4⟩
  · rw [if_neg (by omega)]
    refine .inl ⟨h1, h2, ?_, ?_⟩
    · rw [hb.1]; unfold burnW; rw [if_neg (by omega)]; exact h3
    · rw [hb.2.1]; unfold burnW; rw [if_neg (by omega)]; exact h4
  · have hlv : lv ≠ 0 := fun hh => by rw [h4, hh] at hon; simp at hon
    rw [if_pos (by omega)]
    refine .inr ⟨h1, by omega, ?_, ?_⟩
    · rw [hb.1]; unfold burnW; rw [if_pos (by omega)]; simp only; omega
    · rw [hb.2.1]; unfold burnW; rw [if_pos (by omega)]
      simp only
      rw [decide_eq_decide]
      omega
theorem fuse_not {k lv : Int} {σ : Wd} {o : WOp} (hk : 4 ≤ o.kind ∧ o.kind ≤ 12) (hd : ¬ didP σ o) (h : Fuse k lv σ) : Fuse k lv (doW σ o) := by
  rw [do_not hk hd]
  exact h
/-- Does the step count? As the law reckons it. -/
def countB (σ τ : Wd) (o : WOp) : Bool := if o.kind = 4 ∨ o.kind = 5 ∨ o.kind = 6 then decide (σ.trace.length < τ.trace.length) else if o.kind = 9 then decide (o.name.size = 16) else true
theorem count_did {σ : Wd} {o : WOp} (hk : 4 ≤ o.kind ∧ o.kind ≤ 12) (hoff : σ.off = false) : (countB σ (doW σ o) o = true ↔ didP σ o) := by
  have hr : readyE σ [] = 0 := by unfold readyE; rw [hoff]; rfl
  unfold countB
  by_cases c : o.kind = 4 ∨ o.kind = 5 ∨ o.kind = 6
  · rw [if_pos c]
    by_cases hd : didP σ o
    · have := (do_did hd).2.2 c
      exact ⟨fun _ => hd, fun _ => decide_eq_true (by omega)⟩
    · rw [do_not hk hd]
      exact ⟨fun hh => by simp at hh, fun hh => absurd hh hd⟩
  · rw [if_neg c]
    by_cases c9 : o.kind = 9
    · rw [if_pos c9]
      refine ⟨fun hh => .inr (.inr (.inr ⟨c9, hr, of_decide_eq_true hh⟩)), fun hh => decide_eq_true ?_⟩
      rcases hh with ⟨h1, _⟩ | ⟨h1, _⟩ | ⟨h1, _⟩ | ⟨_, _, h3⟩
      · omega
      · omega
      · omega
      · exact h3
    · rw [if_neg c9]
      exact ⟨fun _ => .inr (.inr (.inl ⟨by omega, hr⟩)), fun _ => rfl⟩
end Go.Proofs.Ytbmafpbjkeehaaa.S
