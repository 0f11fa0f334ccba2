/- Engine 19: an append to a slice that has no room left: a new block, and the old one stays. -/
import Derived.Test.YtjmicpkinflofaaDoorS16
namespace Go.Proofs.YtjmicpkinflofaaDoor.S
open Go.RowKit
set_option linter.unusedVariables false
set_option linter.unusedSimpArgs false
set_option maxRecDepth 100000
set_option maxHeartbeats 4000000
theorem Sat.appendN {α : Type} {P : Program} {E : Enc α} {L : List Hp} {F : Fr} {w : World} {A : Option Addr} {c n : Nat} {xs ys : List α} {sv : Value} {t t' et : TypeId} {B : Nat} {d' : TypeDesc} [ht : Und P t (.slice et)] [ht' : Und P t' d'] [hsz : Siz P et E.sz] [hB : Byt P et B] [hz : ZCells P et E.sz]
    (hnot : ∀ k, d' ≠ .int k) (hs : Sat L F w) (hn : n = xs.length) [hr : RdL L F A E xs] [src : Src P L F E sv ys] (hc : xs.length ≤ c) (hfit : ¬ xs.length + ys.length ≤ c) (hlim : (xs.length + ys.length + (xs.length + ys.length) / 4 + 512) * B ≤ 281474976710656) (hmax : xs.length + ys.length ≤ 9223372036854775807) (r : TypeId) :
    ∃ A' c' w', (Builtin.append_ #[t, t'] r #[.slice A n c, sv]).run P w = .ok (.slice A' (xs ++ ys).length c') w' ∧ Sat (own E A' c' (xs ++ ys) :: L) F w' := by
  subst hn
  obtain ⟨hlen, hsrc⟩ := src.out hs
  obtain ⟨i, hi, hib⟩ := hB.out w
  obtain ⟨z, hzr, hzs, hz1⟩ := hz.out w
  have hz0 := E.pos
  have hd1 : (match d' with | .int _ => true | _ => false) = false := by
    cases d' <;> first | rfl | (rename_i k; exact absurd rfl (hnot k))
  have hnew := hsrc ys.length (Nat.le_refl _)
  rw [List.take_length] at hnew
  have hnc := nextcap_le (need := xs.length + ys.length) (cap := c) (by omega)
  have h48 : ¬ Builtin.nextslicecap (xs.length + ys.length) c * B > 2 ^ 48 := by
    have : Builtin.nextslicecap (xs.length + ys.length) c * B ≤ (xs.length + ys.length + (xs.length + ys.length) / 4 + 512) * B := Nat.mul_le_mul_right _ hnc
    omega
  have hint : ¬ ((xs.length + ys.length : Nat) : Int) > IntKind.i64.max := by rw [show IntKind.i64.max = 9223372036854775807 from rfl]; omega
  have hq : (Question.appendCap (xs.length + ys.length) c et).forced = false := rfl
  have hold : (Builtin.firstCells E.sz xs.length (.slice A xs.length c)).run P w = .ok (xs.flatMap E.cells).toArray w := by
    have r : RdL L F A E xs := hr
    have := (take_cells (P := P) (c := c) r.out hs xs.length (Nat.le_refl _)).2 c
    rwa [List.take_length] at this
  -- the world behind the draw
  have hs2 := hs.drew
  obtain ⟨hlen2, hsrc2⟩ := src.out hs2
  have hnew2 := hsrc2 ys.length (Nat.le_refl _)
  rw [List.take_length] at hnew2
  have hold2 : (Builtin.firstCells E.sz xs.length (.slice A xs.length c)).run P { w with drawn := w.drawn + 1 } = .ok (xs.flatMap E.cells).toArray { w with drawn := w.drawn + 1 } := by
    have r : RdL L F A E xs := hr
    have := (take_cells (P := P) (c := c) r.out hs.drew xs.length (Nat.le_refl _)).2 c
    rwa [List.take_length] at this
  obtain ⟨i2, hi2, hib2⟩ := hB.out { w with drawn := w.drawn + 1 }
  obtain ⟨z2, hzr2, hzs2, hz12⟩ := hz.out { w with drawn := w.drawn + 1 }
  obtain ⟨nc, hnc⟩ : ∃ nc, (Question.appendCap (xs.length + ys.length) c et).cut (w.tape w.drawn (.appendCap (xs.length + ys.length) c et)) = nc := ⟨_, rfl⟩
  have hge : xs.length + ys.length ≤ nc := by
    rw [← hnc]
    show _ ≤ (xs.length + ys.length) + _
    omega
  have hblk : xs.flatMap E.cells ++ ys.flatMap E.cells = (xs ++ ys).flatMap E.cells := by rw [List.flatMap_append]
  refine ⟨some ⟨w.heap.size, 0, none⟩, nc, ({ w with drawn := w.drawn + 1 } : World).alloc (.cells ((xs ++ ys).flatMap E.cells ++ (Builtin.zeroCells z2.cells (nc - (xs.length + ys.length))).toList).toArray et), ?_, ?_⟩
  · simp only [Builtin.append_, List.getElem?_toArray, List.getElem?_cons_zero, List.getElem?_cons_succ, Sem.run_bind, Sem.run_pure, run_und, Result.andThen_ok, hsz.out, hd1, Bool.false_eq_true, if_false, hlen, Bool.not_false, if_true, hfit, hi, hib, h48, hint, false_and, run_choose, hq, hnc, hi2, run_askRoom, hold2, hnew2, hzr2, newRow, run_newObj, List.length_append, World.alloc]
    congr 3
    congr 1
    apply Array.ext'
    simp [List.flatMap_append]
  · have hs3 := hs.drew
    refine hs3.alloc _ (.inr ⟨w.heap.size, 0, (Builtin.zeroCells z2.cells (nc - (xs.length + ys.length))).toList, rfl, by simp only [List.length_append]; exact hge, ?_, fun v hv => hz12 v (zeroCells_mem (by rw [hzs2]; exact hz0) v (Array.mem_toList_iff.1 hv)), new_cells (w := { w with drawn := w.drawn + 1 })⟩)
    rw [Array.length_toList, zeroCells_len, hzs2, List.length_append]
section
variable {α : Type} {P : Program} {N : Nat} {e : Env} {L L' : List Hp} {F : Fr} {Q : Exit → Act → World → Prop} {ops : Array Oper} {d : Nat} {t t' et : TypeId} {B : Nat} {d' : TypeDesc} {p : String} {af : Array Edge} {rest : List Oper} {x y : Operand} {v : Value} {n c m : Nat} {A : Option Addr} {xs ys : List α} {cs : List Value} {v1 : TypeId} {E : Enc α}
theorem j_appendN [hx : EvO e x (.slice A n c)] [hy : EvO e y v] [ht : Und P t (.slice et)] [ht' : Und P t' d'] [hni : NotInt d'] [hsz : Siz P et m] [hB : Byt P et B] [hz : ZCells P et m] [hr : RdL L F A E xs] [src : Src P L F E v ys] [he : EncSz E m] (hn : n = xs.length) (hc : xs.length ≤ c) (hfit : ¬ xs.length + ys.length ≤ c) (hd : Nat.blt d N = true) (hb : Nat.blt 0 B = true)
    (hlim : (xs.length + ys.length + (xs.length + ys.length) / 4 + 512) * B ≤ 281474976710656) (h : ∀ A' c', J N ((d, .slice A' (xs ++ ys).length c') :: e) (own E A' c' (xs ++ ys) :: L) F (wpList P ops Q rest)) :
    J N e L F (wpList P ops Q (⟨some d, .call { callee := .builtin .append, args := #[x, y], argTypes := #[t, t'] }, v1, p, af, none⟩ :: rest)) :=
  j_run rfl fun a w hf hs => by
    have e1 : E.sz = m := he.out
    subst e1
    have hb' : 0 < B := by simpa [Nat.blt_eq] using hb
    have h2 : (xs.length + ys.length + (xs.length + ys.length) / 4 + 512) ≤ (xs.length + ys.length + (xs.length + ys.length) / 4 + 512) * B := Nat.le_mul_of_pos_right _ hb'
    have hmax : xs.length + ys.length ≤ 9223372036854775807 := by
      have h3 := Nat.le_trans h2 hlim
      omega
    obtain ⟨A', c', w', r1, r2⟩ := hs.appendN (A := A) (c := c) (n := n) (E := E) (xs := xs) (ys := ys) (P := P) (t := t) (t' := t') (et := et) (B := B) (d' := d') hni.out hn (sv := v) hc hfit hlim hmax v1
    refine ⟨_, w', ?_, h A' c' _ w' (hf.put hd _) r2⟩
    simp only [execOp, resolve, invoke, builtin, List.map_toArray, List.map_cons, List.map_nil, hx.out hf, hy.out hf, Sem.run_bind, Sem.run_pure, Result.andThen_ok, r1]
end
end Go.Proofs.YtjmicpkinflofaaDoor.S
