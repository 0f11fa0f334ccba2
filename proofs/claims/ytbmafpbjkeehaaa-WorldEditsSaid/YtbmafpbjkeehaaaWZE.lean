/- WorldEdits, walked -/
import Derived.Test.YtbmafpbjkeehaaaWZD
import Derived.Test.YtbmafpbjkeehaaaWSA
namespace Go.Proofs.Ytbmafpbjkeehaaa.S
open Go.RowKit
set_option linter.unusedVariables false
set_option linter.unusedSimpArgs false
set_option maxRecDepth 100000
set_option maxHeartbeats 4000000
theorem applyC_set {σ : Wd} {n x : ByteArray} (h : applyC σ.chg = σ.objs) : applyC (setW σ n x).chg = (setW σ n x).objs := by
  show applyC (σ.chg ++ [_]) = mput σ.objs n x
  rw [applyC_snoc, if_neg Bool.false_ne_true, h]
theorem applyC_drop {σ : Wd} {n : ByteArray} (h : applyC σ.chg = σ.objs) : applyC (dropW σ n).chg = (dropW σ n).objs := by
  unfold dropW
  split
  · show applyC (σ.chg ++ [_]) = mdel σ.objs n
    rw [applyC_snoc, if_pos rfl, h]
  · exact h
/-- A world whose last call has begun: its marks are one ahead of its trace. -/
theorem hist_end {σ τ : Wd} {c : CP} (h : Hist σ) (ht : Told [] (endW τ c)) (ho : applyC τ.chg = τ.objs) (h1 : τ.trace = σ.trace) (h2 : τ.marks = σ.marks ++ [(σ.chg.length : Int)]) (h3 : ∃ cs, τ.chg = σ.chg ++ cs) (h4 : τ.puts = σ.puts ++ (if c.kind = 2 then [⟨c.name, c.blob⟩] else [])) : Hist (endW τ c) := by
  have e1 : (endW τ c).chg = τ.chg := by unfold endW burnW; split <;> rfl
  have e2 : (endW τ c).objs = τ.objs := by unfold endW; rw [burn_objs]
  have e3 : (endW τ c).puts = τ.puts := by unfold endW burnW; split <;> rfl
  have e4 : (endW τ c).marks = τ.marks := by unfold endW burnW; split <;> rfl
  refine ⟨ht, ?_, by rw [e1, e2]; exact ho, ?_, fun i z hi => ?_⟩
  · rw [e3, h4, end_trace, h1, h.puts]
    unfold putsOf
    rw [List.filter_append, List.map_append]
    congr 1
    by_cases hk : c.kind = 2
    · rw [if_pos hk, List.filter_cons_of_pos (by simpa using hk)]; rfl
    · rw [if_neg hk, List.filter_cons_of_neg (by simpa using hk)]; rfl
  · rw [e4, h2, end_trace, h1, List.length_append, List.length_append, h.mlen]
    rfl
  · rw [e4, h2] at hi
    obtain ⟨cs, hcs⟩ := h3
    rw [e1, hcs, end_trace, h1]
    by_cases hlt : i < σ.marks.length
    · rw [List.getElem?_append_left hlt] at hi
      obtain ⟨n, g1, g2, g3⟩ := h.marks i z hi
      refine ⟨n, g1, by rw [List.length_append]; omega, ?_⟩
      rw [List.take_append_of_le_length g2, List.take_append_of_le_length (by rw [← h.mlen]; omega)]
      exact g3
    · rw [List.getElem?_append_right (by omega)] at hi
      have hi0 : i - σ.marks.length = 0 := by
        have := (List.getElem?_eq_some_iff.1 hi).1
        simp at this
        omega
      rw [hi0] at hi
      have hz : (σ.chg.length : Int) = z := by simpa using hi
      refine ⟨σ.chg.length, hz.symm, by rw [List.length_append]; omega, ?_⟩
      rw [List.take_left, show i = σ.trace.length by rw [← h.mlen]; omega, List.take_left, h.objs]
      exact h.told.2
theorem hist_same {σ τ : Wd} (h : Hist σ) (h1 : τ.objs = σ.objs) (h2 : τ.trace = σ.trace) (h3 : τ.puts = σ.puts) (h4 : τ.chg = σ.chg) (h5 : τ.marks = σ.marks) : Hist τ :=
  ⟨told_same h.told h1 h2, by rw [h3, h2]; exact h.puts, by rw [h4, h1]; exact h.objs, by rw [h5, h2]; exact h.mlen, fun i z hi => by rw [h5] at hi; rw [h4, h2]; exact h.marks i z hi⟩
theorem hist_burn {σ : Wd} (h : Hist σ) : Hist (burnW σ) := by
  unfold burnW
  split
  · exact hist_same h rfl rfl rfl rfl rfl
  · exact h
theorem hist_do {σ : Wd} (o : WOp) (h : Hist σ) : Hist (doW σ o) := by
  have ht := told_do o h.told
  unfold doW at ht ⊢
  by_cases c4 : o.kind = 4
  · rw [if_pos c4] at ht ⊢
    unfold getW at ht ⊢
    split at ht
    · rename_i hr
      rw [if_pos hr]
      exact hist_end h ht h.objs rfl rfl ⟨[], (List.append_nil _).symm⟩ (List.append_nil _).symm
    · rename_i hr
      rw [if_neg hr]
      exact h
  rw [if_neg c4] at ht ⊢
  by_cases c5 : o.kind = 5
  · rw [if_pos c5] at ht ⊢
    unfold putW at ht ⊢
    by_cases hr : readyE σ [o.name] = 0
    · rw [if_pos hr] at ht ⊢
      by_cases hz : o.blob.size ≤ 1048576
      · rw [if_pos hz] at ht ⊢
        exact hist_end h ht (applyC_set (σ := markW σ) h.objs) rfl rfl ⟨[_], rfl⟩ rfl
      · rw [if_neg hz]
        exact h
    · rw [if_neg hr]
      exact h
  rw [if_neg c5] at ht ⊢
  by_cases c6 : o.kind = 6
  · rw [if_pos c6] at ht ⊢
    unfold delW at ht ⊢
    by_cases hr : readyE σ [o.name] = 0
    · rw [if_pos hr] at ht ⊢
      refine hist_end h ht (applyC_drop (σ := markW σ) h.objs) dropW_trace ?_ ?_ ?_
      · unfold dropW; split <;> rfl
      · unfold dropW
        split
        · exact ⟨[_], rfl⟩
        · exact ⟨[], (List.append_nil _).symm⟩
      · rw [if_neg (show ¬ ((3 : Int) = 2) by decide), List.append_nil]
        unfold dropW
        split <;> rfl
    · rw [if_neg hr]
      exact h
  rw [if_neg c6] at ht ⊢
  by_cases c7 : o.kind = 7
  · rw [if_pos c7] at ht ⊢
    unfold listW at ht ⊢
    by_cases hr : readyE σ [] = 0
    · rw [if_pos hr] at ht ⊢
      exact hist_end h ht h.objs rfl rfl ⟨[], (List.append_nil _).symm⟩ (List.append_nil _).symm
    · rw [if_neg hr]
      exact h
  rw [if_neg c7]
  clear ht
  split
  · unfold loadW
    split
    · exact hist_burn h
    · exact h
  split
  · unfold pendW
    split
    · split
      · exact hist_burn (hist_same h rfl rfl rfl rfl rfl)
      · exact h
    · exact h
  split
  · unfold commitW
    split
    · exact hist_burn (hist_same h rfl rfl rfl rfl rfl)
    · exact h
  split
  · unfold forgetW
    split
    · exact hist_burn (hist_same h rfl rfl rfl rfl rfl)
    · exact h
  split
  · unfold stopW
    split
    · exact hist_burn (hist_same h rfl rfl rfl rfl rfl)
    · exact h
  split
  · unfold armW
    split
    · exact hist_same h rfl rfl rfl rfl rfl
    · exact h
  split
  · exact hist_same h rfl rfl rfl rfl rfl
  · exact h
theorem hist_new : Hist Wd.new := ⟨⟨leg_new.nd, .refl _⟩, rfl, rfl, rfl, fun i z hi => by simp [Wd.new] at hi⟩
theorem hist_work : Hist workW := by
  have h1 := hist_do ⟨5, 0, oatB, grainB, ⟨0, 0, 0, 0, bE, bE⟩, 0, ⟨none, 0, []⟩, ⟨bE, bE, false⟩⟩ hist_new
  have h2 := hist_do ⟨4, 0, oatB, grainB, ⟨0, 0, 0, 0, bE, bE⟩, 0, ⟨none, 0, []⟩, ⟨bE, bE, false⟩⟩ h1
  have h3 := hist_do ⟨6, 0, oatB, grainB, ⟨0, 0, 0, 0, bE, bE⟩, 0, ⟨none, 0, []⟩, ⟨bE, bE, false⟩⟩ h2
  have h4 := hist_do ⟨4, 0, oatB, grainB, ⟨0, 0, 0, 0, bE, bE⟩, 0, ⟨none, 0, []⟩, ⟨bE, bE, false⟩⟩ h3
  exact h4
end Go.Proofs.Ytbmafpbjkeehaaa.S
