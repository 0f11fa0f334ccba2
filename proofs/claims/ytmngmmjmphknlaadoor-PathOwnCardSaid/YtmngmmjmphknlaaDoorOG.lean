/- PathOwn: path.Map (draft) -/
import Derived.Test.YtmngmmjmphknlaaDoorOF
namespace Go.Proofs.YtmngmmjmphknlaaDoor.S
open Go.RowKit
set_option linter.unusedVariables false
set_option linter.unusedSimpArgs false
set_option maxRecDepth 100000
set_option maxHeartbeats 4000000
set_option synthInstance.maxHeartbeats 400000
set_option synthInstance.maxSize 4000
attribute [local irreducible] wpList Code.wp Exit.then Exit.inBlock stillR bodyPost hR J Back Mid
def mapF (s : ByteArray) (fs ts : List ByteArray) : ByteArray × Int := if (parseF s).2 = 0 then (if fs.length = ts.length then textF ((parseF s).1.map (mapOne fs ts)) else (⟨#[]⟩, 1)) else (⟨#[]⟩, (parseF s).2)
theorem join_len : ∀ (l : List ByteArray), (∀ x ∈ l, x.size ≤ 32) → (Lib.join (l.map (·.data.toList)) [47]).length ≤ 33 * l.length
  | [], _ => by simp [Lib.join]
  | [x], h => by
    have := h x (by simp)
    simp [Lib.join]
    omega
  | x :: y :: l, h => by
    have h1 := h x (by simp)
    have h2 := join_len (y :: l) (fun z hz => h z (by simp [hz]))
    simp only [List.map_cons, Lib.join, List.intercalate, List.intersperse, List.flatten_cons, List.length_append, List.length_cons, List.length_nil] at h2 ⊢
    have : x.data.toList.length = x.size := by simp
    omega
theorem checked_small {l : List ByteArray} (h : checkedE l = 0) : l.length ≤ 16 ∧ ∀ x ∈ l, x.size ≤ 32 := by
  unfold checkedE at h
  split at h
  · rename_i hall
    split at h
    · cases h
    · refine ⟨by omega, fun x hx => ?_⟩
      have := List.all_eq_true.1 hall x hx
      unfold nameB at this
      simp only [Bool.and_eq_true, decide_eq_true_eq] at this
      omega
  · cases h
theorem checked_join {l : List ByteArray} (h : checkedE l = 0) : (Lib.join (l.map (·.data.toList)) [47]).length ≤ 10000 := by
  obtain ⟨h1, h2⟩ := checked_small h
  have := join_len l h2
  omega
end Go.Proofs.YtmngmmjmphknlaaDoor.S
