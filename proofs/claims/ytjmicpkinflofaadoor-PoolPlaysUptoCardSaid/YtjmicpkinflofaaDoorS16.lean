/- Plain words that several laws share. -/
import Derived.Test.YtjmicpkinflofaaDoorS15
namespace Go.Proofs.YtjmicpkinflofaaDoor.S
open Go.RowKit
set_option linter.unusedVariables false
def clipF (n lo hi : Int) : Int := lo + n % (hi - lo + 1)
theorem clipF_range (n lo hi : Int) (h : lo ≤ hi) : lo ≤ clipF n lo hi ∧ clipF n lo hi ≤ hi := by
  unfold clipF
  have h1 := Int.emod_nonneg n (b := hi - lo + 1) (by omega)
  have h2 := Int.emod_lt_of_pos n (b := hi - lo + 1) (by omega)
  omega
theorem tmod_clip (n k : Int) (hk : 0 < k) : (n.tmod k < 0 → n.tmod k + k = n % k ∧ 0 < n % k) ∧ (¬ n.tmod k < 0 → n.tmod k = n % k) := by
  have h1 := Int.emod_nonneg n (b := k) (by omega)
  have h2 := Int.emod_lt_of_pos n hk
  have h3 := @Int.tmod_eq_emod n k
  have h4 : (k.natAbs : Int) = k := by omega
  split at h3
  · omega
  · rename_i h
    have h5 : n % k ≠ 0 := fun hh => h (.inr (Int.dvd_of_emod_eq_zero hh))
    omega
theorem tmod_range (n k : Int) (hk : 0 < k) : -k < n.tmod k ∧ n.tmod k < k := by
  have h1 := Int.emod_nonneg n (b := k) (by omega)
  have h2 := Int.emod_lt_of_pos n hk
  obtain ⟨h3, h4⟩ := tmod_clip n k hk
  by_cases h : n.tmod k < 0
  · have := h3 h; omega
  · have := h4 h; omega
theorem RO.nil {α : Type} {F : Fr} {E : Enc α} : RO F E none [] := ⟨⟨fun h => absurd rfl h, fun i x j v hi => by simp at hi⟩⟩
theorem last_at {α : Type} (l : List α) (x : α) : (l ++ [x])[l.length]? = some x := by simp
end Go.Proofs.YtjmicpkinflofaaDoor.S
