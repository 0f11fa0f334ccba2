/- Engine 24: numerals (strconv.Itoa by the shelf) -/
import Derived.Test.YtjmicpkinflofaaDoorS21
import Derived.Test.YtjmicpkinflofaaDoorS16
import Derived.Test.YtjmicpkinflofaaDoorShelf
namespace Go.Proofs.YtjmicpkinflofaaDoor.S
open Go.RowKit
set_option linter.unusedVariables false
set_option linter.unusedSimpArgs false
set_option maxRecDepth 100000
set_option maxHeartbeats 4000000
set_option synthInstance.maxHeartbeats 400000
set_option synthInstance.maxSize 4000
attribute [local irreducible] wpList Code.wp Exit.then Exit.inBlock stillR bodyPost hR J Back Mid
/-! ### A numeral -/
def itoaB (n : Int) : ByteArray := ⟨(Lib.itoa n).toArray⟩
abbrev Tab (F : Fr) : Prop := TabF Tryd.prog "internal/strconv.uint64pow10" .u64 Lib.pow10Tab F
theorem tab_world {P : Program} {nm : String} {k : IntKind} {zs : List Int} {F : Fr} {w : World} {L : List Hp} (hR : TabF P nm k zs F) (hs : Sat L F w) : Lib.TabIs P w nm k zs := by
  obtain ⟨h, hl, hd, g1, g2, g3, g4⟩ := hs
  have h5 : Lib.TabIs P F.W nm k zs := hR
  unfold Lib.TabIs World.var? at *
  cases hg : P.globalNamed nm with
  | none => rw [hg] at h5; cases h5
  | some g =>
    rw [hg, Option.bind_some] at h5
    rw [Option.bind_some]
    have hlt : g < F.W.heap.size := by
      rcases Nat.lt_or_ge g F.W.heap.size with h1 | h1
      · exact h1
      · rw [Array.getElem?_eq_none h1] at h5; cases h5
    rw [g4.block g hlt]
    exact h5
theorem below_growX (w : World) (k : Nat) (os : Array Obj) : Below w.heap.size w (Go.Sort.grow (w.drewN k) os) := ⟨rfl, rfl, rfl, by show _ ≤ (w.heap ++ os).size; simp, fun j hj => by show (w.heap ++ os)[j]? = _; rw [Array.getElem?_append_left hj]⟩
theorem itoa_spec (n : Int) (h0 : -9223372036854775808 ≤ n) (h1 : n ≤ 9223372036854775807) : Spec Tryd.prog 68 [.int .i64 n] [] Tab (fun v L => v = .string (itoaB n) ∧ L = []) :=
  spec_of_below fun F w hR hs => by
    refine (Tryd.strconv_Itoa n h0 h1 w (tab_world hR hs)).mono ?_
    rintro e w' ⟨rfl, k, os, rfl⟩
    exact ⟨_, [], rfl, ⟨rfl, rfl⟩, below_growX w k os, fun h => h⟩
theorem nDigits_le : ∀ (k u : Nat), u < 10 ^ (k + 1) → Lib.nDigits u ≤ k + 1
  | 0, u, h => by rw [Lib.nDigits_small (by omega)]; omega
  | k + 1, u, h => by
    by_cases hu : u < 10
    · rw [Lib.nDigits_small hu]; omega
    · rw [Lib.nDigits_big hu]
      have := nDigits_le k (u / 10) (by rw [Nat.pow_succ] at h; omega)
      omega
theorem itoaB_size (n : Int) (h0 : -9223372036854775808 ≤ n) (h1 : n ≤ 9223372036854775807) : (itoaB n).size ≤ 21 := by
  unfold itoaB Lib.itoa
  split
  · have := nDigits_le 19 n.natAbs (by omega)
    simp only [ByteArray.size, List.size_toArray, List.length_cons, Lib.decDigits_length]
    omega
  · have := nDigits_le 19 n.toNat (by omega)
    simp only [ByteArray.size, List.size_toArray, Lib.decDigits_length]
    omega
theorem wrap_range (n : Int) : -9223372036854775808 ≤ IntKind.i64.wrap n ∧ IntKind.i64.wrap n ≤ 9223372036854775807 := by
  rw [IntKind.wrap_i64]
  omega
end Go.Proofs.YtjmicpkinflofaaDoor.S
