/- The walk: slices written out with gaps. Generic over programs. -/
import Derived.Test.YtjmicpkinflofaaDoorS14
namespace Go.Proofs.YtjmicpkinflofaaDoor.S
open Go.RowKit
set_option linter.unusedVariables false
set_option linter.unusedSimpArgs false
theorem fill_congr {f g : Nat → Option (Nat × Nat)} : ∀ (parts : List (Nat × Value)) (cs : Array Value), (∀ p ∈ parts, f p.1 = g p.1) → Instr.fill f cs parts = Instr.fill g cs parts
  | [], _, _ => rfl
  | (i, v) :: rest, cs, h => by
    have h1 := h (i, v) List.mem_cons_self
    dsimp only at h1
    unfold Instr.fill
    rw [h1]
    cases g i with
    | none => rfl
    | some q =>
      simp only
      split
      · rfl
      · exact fill_congr rest _ fun p hp => h p (List.mem_cons_of_mem _ hp)
theorem j_buildSliceF {α : Type} {P : Program} {N : Nat} {e : Env} {L : List Hp} {F : Fr} {Q : Exit → Act → World → Prop} {ops : Array Oper} {d : Nat} {t et : TypeId} {p : String} {af : Array Edge} {rest : List Oper} {n : Nat} {v1 : TypeId} (E : Enc α) {x0 : α} (places : List (Nat × Nat)) (zs : List Value) {ws : List Value} {parts : List (Nat × Operand)}
    [ht : Und P t (.slice et)] [hs : Siz P et E.sz] [hz : ZeroE P et E x0] (hzs : zs = (List.replicate n x0).flatMap E.cells) [hc : FillV e places zs parts ws] (hpl : parts.all (fun q => decide (places[q.1]? = some (q.1 * E.sz, E.sz))) = true) (hpos : Nat.blt 0 (n * E.sz) = true) (hlim : Nat.ble (n * E.sz) 16777216 = true) (hd : Nat.blt d N = true)
    (h : ∀ b, J N ((d, .slice (some ⟨b, 0, none⟩) n n) :: e) (cells b 0 ws :: L) F (wpList P ops Q rest)) : J N e L F (wpList P ops Q (⟨some d, .buildSlice t n parts.toArray, v1, p, af, none⟩ :: rest)) :=
  j_run rfl fun a w hf hsat => by
    obtain ⟨zv, hzr, hzc⟩ := hz.out w
    have hpos' : 0 < n * E.sz := by simpa [Nat.blt_eq] using hpos
    have hlim' : n * E.sz ≤ 16777216 := Nat.le_of_ble_eq_true hlim
    have hzz : ((Array.range (n * E.sz)).map (zv.cells[· % zv.cells.size]!)) = zs.toArray := by
      apply Array.ext'
      rw [zero_flat E hzc n, hzs]
    have h0 := hc.out hf
    have hcg : Instr.fill (fun i => some (i * E.sz, E.sz)) zs.toArray (parts.map fun q => (q.1, a.eval q.2)) = some ws.toArray := by
      rw [← h0]
      refine fill_congr _ _ fun q hq => ?_
      obtain ⟨r, hr, rfl⟩ := List.mem_map.1 hq
      have := List.all_eq_true.1 hpl r hr
      simp only [decide_eq_true_eq] at this
      exact this.symm
    refine ⟨_, w.alloc (.cells ws.toArray et), ?_, h w.heap.size _ _ (hf.put hd _) (hsat.alloc _ new_cells)⟩
    have h1 : ((parts.toArray.map fun (q : Nat × Operand) => (q.1, a.eval q.2))).toList = parts.map fun q => (q.1, a.eval q.2) := by simp
    have h2 : ¬ n * E.sz > 2 ^ 24 := by omega
    simp only [execOp, Instr.buildSlice, Sem.run_bind, Sem.run_pure, run_und, Result.andThen_ok, hs.out, h2, if_false, show ¬ n * E.sz = 0 by omega, hzr, h1, hzz, hcg, newRow, run_newObj]
    rfl
/-- Cells of the call's own, as a slice's. -/
theorem own_of_cells {α : Type} {E : Enc α} {L : List Hp} {b n : Nat} {vs : List Value} {xs : List α} (hv : xs.flatMap E.cells = vs) (hn : xs.length = n) : LE (cells b 0 vs :: L) (own E (some ⟨b, 0, none⟩) n xs :: L) :=
  LE.head fun h hh => own.inr ⟨b, 0, [], rfl, by omega, by simp [hn], (fun v hv => by cases hv), by rw [List.append_nil, hv]; exact hh⟩
end Go.Proofs.YtjmicpkinflofaaDoor.S
