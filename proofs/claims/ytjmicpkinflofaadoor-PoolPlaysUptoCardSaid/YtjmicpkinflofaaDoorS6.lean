/- The walk: values built, slices made, appended to, copied. Generic over programs. -/
import Derived.Test.YtjmicpkinflofaaDoorS5
namespace Go.Proofs.YtjmicpkinflofaaDoor.S
open Go.RowKit
set_option linter.unusedVariables false
set_option linter.unusedSimpArgs false

/-! ### Structs built -/
def fillP (places : List (Nat × Nat)) (zs : List Value) (parts : List (Nat × Value)) : Option (Array Value) := Instr.fill (places[·]?) zs.toArray parts
theorem fillP_eq {places : List (Nat × Nat)} {zs : List Value} {parts : List (Nat × Value)} : Instr.fill (places[·]?) zs.toArray parts = fillP places zs parts := rfl
class BTab (P : Program) (t : TypeId) (zs : outParam (List Value)) (places : outParam (List (Nat × Nat))) : Prop where
  out : ∀ parts w, (Instr.build t parts).run P w = (match fillP places zs parts.toList with | some cs => .ok (.agg cs) w | none => .halt (.stuck "build: no such field, or a part of the wrong size") w)
theorem run_fill {P : Program} {w : World} (r : Option (Array Value)) : Sem.run P (match r with | some cells => pure (Value.agg cells) | _ => stuck "build: no such field, or a part of the wrong size") w = (match r with | some cs => .ok (.agg cs) w | none => .halt (.stuck "build: no such field, or a part of the wrong size") w) := by cases r <;> rfl
class NthP (ps : List (Nat × Nat)) (k : Nat) (a b : outParam Nat) : Prop where out : ps[k]? = some (a, b)
instance nthP_zero {a b : Nat} {ps : List (Nat × Nat)} : NthP ((a, b) :: ps) 0 a b := ⟨rfl⟩
instance nthP_succ {a b : Nat} {q : Nat × Nat} {ps : List (Nat × Nat)} {k : Nat} [h : NthP ps k a b] : NthP (q :: ps) (k + 1) a b := ⟨by simpa using h.out⟩
class LenV (cs : List Value) (n : Nat) : Prop where out : cs.length = n
instance lenV_nil : LenV [] 0 := ⟨rfl⟩
instance lenV_cons {c : Value} {cs : List Value} {n : Nat} [h : LenV cs n] : LenV (c :: cs) (n + 1) := ⟨by simp [h.out]⟩
theorem fold_over : ∀ (cs : List Value) (k off : Nat) (zs : Array Value), off + k + cs.length ≤ zs.size →
    ((cs.zipIdx k).foldl (fun (acc : Array Value) (p : Value × Nat) => acc.setIfInBounds (off + p.2) p.1) zs).toList = overL zs.toList (off + k) cs
  | [], k, off, zs, h => by simp [overL]
  | c :: cs, k, off, zs, h => by
    simp only [List.length_cons] at h
    simp only [List.zipIdx_cons, List.foldl_cons]
    rw [fold_over cs (k + 1) off _ (by simp; omega)]
    have hz : zs.toList.length = zs.size := by simp
    apply List.ext_getElem?
    intro m
    rw [overL_get (by simp; omega), overL_get (by simp; omega), Array.toList_setIfInBounds]
    simp only [List.length_cons]
    by_cases h1 : off + (k + 1) ≤ m ∧ m < off + (k + 1) + cs.length
    · rw [if_pos h1, if_pos (by omega), show m - (off + k) = (m - (off + (k + 1))) + 1 by omega, List.getElem?_cons_succ]
    · rw [if_neg h1]
      by_cases h2 : m = off + k
      · subst h2
        rw [if_pos (by omega), List.getElem?_set_self (by omega), Nat.sub_self]
        rfl
      · rw [if_neg (by omega), List.getElem?_set_ne (by omega)]
class FillV (e : Env) (places : List (Nat × Nat)) (zs : List Value) (parts : List (Nat × Operand)) (ws : outParam (List Value)) : Prop where
  out : ∀ {N : Nat} {a : Act}, Fits N e a → Instr.fill (places[·]?) zs.toArray (parts.map fun q => (q.1, a.eval q.2)) = some ws.toArray
instance fillV_nil {e : Env} {places : List (Nat × Nat)} {zs : List Value} : FillV e places zs [] zs := ⟨fun _ => rfl⟩
instance fillV_cons {e : Env} {places : List (Nat × Nat)} {zs ws us cs : List Value} {i off n : Nat} {x : Operand} {v : Value} {parts : List (Nat × Operand)} [hp : NthP places i off n] [hx : EvO e x v] [hc : CellsV v cs] [hn : LenV cs n] [hs : SetV zs off cs ws] [hr : FillV e places ws parts us] :
    FillV e places zs ((i, x) :: parts) us := ⟨fun {N a} hf => by
  have h1 : v.cells.size = n := by rw [← Array.length_toList, hc.out]; exact hn.out
  have h2 : off + v.cells.size ≤ zs.length := by have := hs.out.1; rw [hn.out] at this; omega
  have h3 : (v.cells.zipIdx.foldl (fun cs (c, j) => cs.setIfInBounds (off + j) c) zs.toArray) = ws.toArray := by
    apply Array.ext'
    have e1 := fold_over v.cells.toList 0 off zs.toArray (by simp only [List.size_toArray, Array.length_toList]; omega)
    rw [Nat.add_zero, hc.out, hs.out.2] at e1
    rw [← e1, ← hc.out]
    congr 1
    rw [← Array.foldl_toList]
    congr 1
    simp
  have h4 := hr.out hf
  simp only [List.map_cons, Instr.fill, hp.out, hx.out hf, h1, ne_eq, not_true_eq_false, decide_false, Bool.false_or, List.size_toArray]
  rw [if_neg (by simp; omega), h3]
  exact h4⟩
section
variable {P : Program} {e : Env} {L : List Hp} {F : Fr} {d : Option Nat} {t : TypeId} {p : String} {af : Array Edge} {g : Option (Nat × Bool)} {v1 : TypeId}
instance sv_build {zs ws : List Value} {places : List (Nat × Nat)} {parts : List (Nat × Operand)} [hb : BTab P t zs places] [hf : FillV e places zs parts ws] : StepV P e L F ⟨d, .build t parts.toArray, v1, p, af, g⟩ (.agg ws.toArray) := ⟨fun {N a w} hfi hs => by
  have h1 : ((parts.toArray.map fun (q : Nat × Operand) => (q.1, a.eval q.2))).toList = parts.map fun q => (q.1, a.eval q.2) := by simp
  simp only [execOp, hb.out, h1, fillP, hf.out hfi, Sem.run_bind, Sem.run_pure, Result.andThen_ok]⟩
end
/-! ### Slices made, appended to -/
/-- Where elements to be appended or copied come from. -/
class Src {α : Type} (P : Program) (L : List Hp) (F : Fr) (E : Enc α) (v : Value) (ys : outParam (List α)) : Prop where
  out : ∀ {w : World}, Sat L F w → (Builtin.lenOf v).run P w = .ok ys.length w ∧ ∀ m, m ≤ ys.length → (Builtin.firstCells E.sz m v).run P w = .ok ((ys.take m).flatMap E.cells).toArray w
theorem Sat.cellOf {L : List Hp} {F : Fr} {w : World} (hs : Sat L F w) {b o : Nat} {v : Value} (h : ∀ {k : Heap}, stars L k → Heap.dj k F.h → ∃ fr, Heap.un k F.h b o = some (.val v fr)) : w.cell? ⟨b, o, none⟩ = some v :=
  CA.cell ⟨h⟩ hs
theorem take_cells {α : Type} {P : Program} {L : List Hp} {F : Fr} {E : Enc α} {A : Option Addr} {c : Nat} {ys : List α} (r : ∀ {h : Heap}, stars L h → Heap.dj h F.h → Rd (Heap.un h F.h) E A ys) {w : World} (hs : Sat L F w) (m : Nat) (hm : m ≤ ys.length) :
    (Builtin.firstCells E.sz m (.slice A c ys.length)).run P w = .ok ((ys.take m).flatMap E.cells).toArray w ∧ ∀ c', (Builtin.firstCells E.sz m (.slice A ys.length c')).run P w = .ok ((ys.take m).flatMap E.cells).toArray w := by
  have key : ∀ n c', (Builtin.firstCells E.sz m (.slice A n c')).run P w = .ok ((ys.take m).flatMap E.cells).toArray w := by
    intro n c'
    have hs' := hs
    obtain ⟨h, hl, hd, _⟩ := hs'
    by_cases hys : ys = []
    · subst hys
      have hm0 : m = 0 := by simpa using hm
      subst hm0
      cases A with
      | none => simp [Builtin.firstCells]
      | some a => simp [Builtin.firstCells, loadCells, loadCellsFrom]
    · have hA := (r hl hd).fst hys
      rw [hA]
      simp only [Builtin.firstCells]
      refine run_loadCells (by rw [flat_len]; simp [Nat.min_eq_left hm]) fun j v hj => hs.cellOf fun {k} hk hdk => ?_
      have hz := E.pos
      have hjl : j < ((ys.take m).flatMap E.cells).length := (List.getElem?_eq_some_iff.1 hj).1
      rw [flat_len, List.length_take, Nat.min_eq_left hm] at hjl
      have hdm := Nat.div_add_mod j E.sz
      have hlt := Nat.mod_lt j hz
      have hjm : j / E.sz < m := Nat.div_lt_of_lt_mul (by rw [Nat.mul_comm]; exact hjl)
      obtain ⟨x, hx⟩ : ∃ x, ys[j / E.sz]? = some x := ⟨_, List.getElem?_eq_getElem (by omega)⟩
      have hx' : (ys.take m)[j / E.sz]? = some x := by rw [List.getElem?_take, if_pos hjm]; exact hx
      have h1 := flat_get E _ _ _ _ hx' hlt
      have e1 : j / E.sz * E.sz + j % E.sz = j := by rw [Nat.mul_comm]; exact hdm
      rw [e1, hj] at h1
      have h2 := (r hk hdk).get _ x _ v hx h1.symm
      rwa [e1] at h2
  exact ⟨key _ _, fun c' => key _ _⟩
instance (priority := high) src_nil {α : Type} {P : Program} {L : List Hp} {F : Fr} {E : Enc α} : Src P L F E (.slice none 0 0) [] := ⟨fun _ => ⟨rfl, fun m hm => by
  have : m = 0 := by simpa using hm
  subst this
  rfl⟩⟩
instance src_rd {α : Type} {P : Program} {L : List Hp} {F : Fr} {E : Enc α} {A : Option Addr} {ys : List α} {c : Nat} [r : RdL L F A E ys] : Src P L F E (.slice A ys.length c) ys :=
  ⟨fun hs => ⟨rfl, fun m hm => (take_cells (c := c) r.out hs m hm).2 c⟩⟩
/-- A block of the call's own, whole. -/
class CellsAll (L : List Hp) (b : Nat) (vs : outParam (List Value)) : Prop where out : ∀ {h : Heap}, stars L h → ∀ j v, vs[j]? = some v → h b j = some (.val v false)
instance (priority := high) cellsAll_here {L : List Hp} {b : Nat} {vs : List Value} : CellsAll (cells b 0 vs :: L) b vs := ⟨by
  rintro h ⟨h1, h2, hd, rfl, hcs, hl⟩ j v hj
  rw [cells_iff] at hcs
  subst hcs
  exact Heap.un_left (by simp [hj])⟩
instance (priority := low) cellsAll_there {c : Hp} {L : List Hp} {b : Nat} {vs : List Value} [i : CellsAll L b vs] : CellsAll (c :: L) b vs := ⟨by
  rintro h ⟨h1, h2, hd, rfl, hc, hl⟩ j v hj
  exact Heap.un_right hd (i.out hl j v hj)⟩
class LenL {α : Type} (ys : List α) (n : Nat) : Prop where out : ys.length = n
instance lenL_nil {α : Type} : LenL ([] : List α) 0 := ⟨rfl⟩
instance lenL_cons {α : Type} {y : α} {ys : List α} {n : Nat} [h : LenL ys n] : LenL (y :: ys) (n + 1) := ⟨by simp [h.out]⟩
/-- n elements in fresh cells. -/
instance (priority := high) src_cells {α : Type} {P : Program} {L : List Hp} {F : Fr} {E : Enc α} {b n c : Nat} {vs : List Value} {ys : List α} [h : CellsAll L b vs] [hd : DecL E vs ys] [hn' : LenL ys n] : Src P L F E (.slice (some ⟨b, 0, none⟩) n c) ys := ⟨fun {w} hs => by
  have hn : n = ys.length := hn'.out.symm
  subst hn
  refine ⟨rfl, fun k hk => ?_⟩
  simp only [Builtin.firstCells]
  have hlen : ((ys.take k).flatMap E.cells).length = k * E.sz := by rw [flat_len, List.length_take, Nat.min_eq_left hk]
  refine run_loadCells hlen fun j v hj => ?_
  have hjl : j < ((ys.take k).flatMap E.cells).length := (List.getElem?_eq_some_iff.1 hj).1
  have hv : vs[j]? = some v := by
    rw [← hd.out, ← List.take_append_drop k ys, List.flatMap_append, List.getElem?_append_left hjl]
    exact hj
  rw [Nat.zero_add]
  exact hs.cellOf fun {q} hl _ => ⟨false, Heap.un_left (h.out hl j v hv)⟩⟩
theorem nextcap_le {need cap : Nat} (h : cap < need) : Builtin.nextslicecap need cap ≤ need + need / 4 + 512 := by
  unfold Builtin.nextslicecap
  split
  · omega
  · split
    · omega
    · have key : ∀ (r c : Nat), c ≤ need + need / 4 + 512 → Builtin.growBy need r c ≤ need + need / 4 + 512 := by
        intro r
        induction r with
        | zero => intro c hc; exact hc
        | succ r ih =>
          intro c hc
          unfold Builtin.growBy
          split
          · exact hc
          · exact ih _ (by omega)
      exact key _ _ (by omega)
/-- What an append to a slice of the call's own comes to. -/
theorem own.cells_split {α : Type} {E : Enc α} {A : Option Addr} {c : Nat} {xs : List α} {h : Heap} (ho : own E A c xs h) : xs.length ≤ c := by
  rcases own_iff.1 ho with ⟨rfl, rfl, rfl, rfl⟩ | ⟨b, o, sp, rfl, hc, _⟩
  · exact Nat.le_refl _
  · exact hc
theorem flat_one {α : Type} (E : Enc α) (xs : List α) : ∀ v ∈ xs.flatMap E.cells, v.oneCell' = true := fun v hv => by
  obtain ⟨x, _, hx⟩ := List.mem_flatMap.1 hv
  exact E.one x v hx
theorem zeroCells_len {zs : Array Value} (n : Nat) : (Builtin.zeroCells zs n).size = n * zs.size := by simp [Builtin.zeroCells]
theorem zeroCells_mem {zs : Array Value} {n : Nat} (hz : 0 < zs.size) : ∀ v ∈ Builtin.zeroCells zs n, v ∈ zs := fun v hv => by
  unfold Builtin.zeroCells at hv
  obtain ⟨i, _, rfl⟩ := Array.mem_map.1 hv
  rw [getElem!_pos zs (i % zs.size) (Nat.mod_lt _ hz)]
  exact Array.getElem_mem _
/-- The type's zero lies in cells that can be stored. -/
class ZCells (P : Program) (et : TypeId) (sz : Nat) : Prop where out : ∀ w, ∃ z, (zeroValue et).run P w = .ok z w ∧ z.cells.size = sz ∧ ∀ v ∈ z.cells, v.oneCell' = true
instance zCells_of {P : Program} {et sz : Nat} {z : Value} {cs : List Value} [h : Zro P et z] [hc : CellsV z cs] [hl : LenV cs sz] [ho : OneVs cs] : ZCells P et sz := ⟨fun w => ⟨z, h.out w, by rw [← Array.length_toList, hc.out, hl.out], fun v hv => ho.out v (by rw [← hc.out]; exact Array.mem_toList_iff.2 hv)⟩⟩
theorem Sat.append {α : Type} {P : Program} {E : Enc α} {L L' : List Hp} {F : Fr} {w : World} {A : Option Addr} {c n : Nat} {xs ys : List α} {sv : Value} {t t' et : TypeId} {B : Nat} {d' : TypeDesc} [ht : Und P t (.slice et)] [ht' : Und P t' d'] [hsz : Siz P et E.sz] [hB : Byt P et B] [hz : ZCells P et E.sz]
    (hnot : ∀ k, d' ≠ .int k) (hs : Sat L F w) (hn : n = xs.length) (hp : Pick (own E A c xs) L L') [src : Src P L F E sv ys] (hlim : (xs.length + ys.length + (xs.length + ys.length) / 4 + 512) * B ≤ 281474976710656) (hmax : xs.length + ys.length ≤ 9223372036854775807) (r : TypeId) :
    ∃ A' c' w', (Builtin.append_ #[t, t'] r #[.slice A n c, sv]).run P w = .ok (.slice A' (xs ++ ys).length c') w' ∧ Sat (own E A' c' (xs ++ ys) :: L') F w' := by
  subst hn
  obtain ⟨hlen, hsrc⟩ := src.out hs
  obtain ⟨i, hi, hib⟩ := hB.out w
  obtain ⟨z, hzr, hzs, hz1⟩ := hz.out w
  have hz0 := E.pos
  have hd1 : (match d' with | .int _ => true | _ => false) = false := by
    cases d' <;> first | rfl | (rename_i k; exact absurd rfl (hnot k))
  have hs1 : Sat (own E A c xs :: L') F w := by
    obtain ⟨h, hl, rest⟩ := hs
    exact ⟨h, (hp.stars h).1 hl, rest⟩
  have hnew := hsrc ys.length (Nat.le_refl _)
  rw [List.take_length] at hnew
  have hc : xs.length ≤ c := by
    obtain ⟨h, ⟨h1, h2, _, _, ho, _⟩, _⟩ := hs1
    exact ho.cells_split
  by_cases hfit : xs.length + ys.length ≤ c
  · -- in place
    obtain ⟨h, ⟨h1, h2, hd, rfl, ho, hl⟩, hrest⟩ := hs1
    rcases own_iff.1 ho with ⟨rfl, rfl, rfl, rfl⟩ | ⟨b, o, sp, rfl, hc', hsp, hsp1, hcs⟩
    · have hy0 : ys = [] := by
        have : ys.length = 0 := by simpa using hfit
        exact List.length_eq_zero_iff.1 this
      subst hy0
      refine ⟨none, 0, w, ?_, ⟨_, ⟨_, h2, hd, rfl, .inl ⟨rfl, rfl, rfl, rfl⟩, hl⟩, hrest⟩⟩
      have hnew' : (Builtin.firstCells E.sz 0 sv).run P w = .ok #[] w := hnew
      have hlen' : (Builtin.lenOf sv).run P w = .ok 0 w := hlen
      simp [Builtin.append_, run_und, hsz.out, hd1, hlen', hnew']
    · have hk : xs.length * E.sz + (ys.flatMap E.cells).length ≤ (xs.flatMap E.cells ++ sp).length := by
        simp only [List.length_append, flat_len, hsp]
        have : ys.length * E.sz ≤ (c - xs.length) * E.sz := Nat.mul_le_mul_right _ (by omega)
        omega
      have hov : overL (xs.flatMap E.cells ++ sp) (xs.length * E.sz) (ys.flatMap E.cells) = (xs ++ ys).flatMap E.cells ++ sp.drop (ys.length * E.sz) := by
        unfold overL
        rw [List.take_append_of_le_length (by rw [flat_len]; exact Nat.le_refl _), List.take_of_length_le (by rw [flat_len]; exact Nat.le_refl _), List.flatMap_append]
        congr 1
        rw [List.drop_append, List.drop_of_length_le (by rw [flat_len]; omega), List.nil_append, flat_len, flat_len]
        congr 1
        omega
      have st : ST (cells b o (xs.flatMap E.cells ++ sp) :: L') b (o + xs.length * E.sz) (ys.flatMap E.cells) (cells b o ((xs ++ ys).flatMap E.cells ++ sp.drop (ys.length * E.sz)) :: L') := by
        have : SetV (xs.flatMap E.cells ++ sp) (xs.length * E.sz) (ys.flatMap E.cells) ((xs ++ ys).flatMap E.cells ++ sp.drop (ys.length * E.sz)) := ⟨hk, hov⟩
        exact st_here
      obtain ⟨w', e1, e2⟩ := Sat.store (P := P) (show Sat (cells b o (xs.flatMap E.cells ++ sp) :: L') F w from ⟨_, ⟨h1, h2, hd, rfl, hcs, hl⟩, hrest⟩) st (flat_one E ys)
      refine ⟨some ⟨b, o, none⟩, c, w', ?_, ?_⟩
      · simp only [Builtin.append_, List.getElem?_toArray, List.getElem?_cons_zero, List.getElem?_cons_succ, Sem.run_bind, Sem.run_pure, run_und, Result.andThen_ok, hsz.out, hd1, Bool.false_eq_true, if_false, hlen, Bool.not_false, if_true, hfit, hnew, add_off, List.length_append, e1]
      · obtain ⟨h', ⟨k1, k2, kd, rfl, kc, kl⟩, krest⟩ := e2
        exact ⟨_, ⟨k1, k2, kd, rfl, .inr ⟨b, o, _, rfl, by simp only [List.length_append]; omega, by
          simp only [List.length_drop, hsp, List.length_append]
          rw [← Nat.sub_mul]
          congr 1
          omega, fun v hv => hsp1 v (List.mem_of_mem_drop hv), kc⟩, kl⟩, krest⟩
  · -- in a new block
    have hnc := nextcap_le (need := xs.length + ys.length) (cap := c) (by omega)
    have h48 : ¬ Builtin.nextslicecap (xs.length + ys.length) c * B > 2 ^ 48 := by
      have : Builtin.nextslicecap (xs.length + ys.length) c * B ≤ (xs.length + ys.length + (xs.length + ys.length) / 4 + 512) * B := Nat.mul_le_mul_right _ hnc
      omega
    have hint : ¬ ((xs.length + ys.length : Nat) : Int) > IntKind.i64.max := by rw [show IntKind.i64.max = 9223372036854775807 from rfl]; omega
    have hq : (Question.appendCap (xs.length + ys.length) c et).forced = false := rfl
    have hold : (Builtin.firstCells E.sz xs.length (.slice A xs.length c)).run P w = .ok (xs.flatMap E.cells).toArray w := by
      have r : RdL (own E A c xs :: L') F A E xs := rdL_here
      have := (take_cells (P := P) (c := c) r.out hs1 xs.length (Nat.le_refl _)).2 c
      rwa [List.take_length] at this
    -- the world behind the draw
    have hs2 := hs.drew
    obtain ⟨hlen2, hsrc2⟩ := src.out hs2
    have hnew2 := hsrc2 ys.length (Nat.le_refl _)
    rw [List.take_length] at hnew2
    have hold2 : (Builtin.firstCells E.sz xs.length (.slice A xs.length c)).run P { w with drawn := w.drawn + 1 } = .ok (xs.flatMap E.cells).toArray { w with drawn := w.drawn + 1 } := by
      have r : RdL (own E A c xs :: L') F A E xs := rdL_here
      have := (take_cells (P := P) (c := c) r.out hs1.drew xs.length (Nat.le_refl _)).2 c
      rwa [List.take_length] at this
    obtain ⟨i2, hi2, hib2⟩ := hB.out { w with drawn := w.drawn + 1 }
    obtain ⟨z2, hzr2, hzs2, hz12⟩ := hz.out { w with drawn := w.drawn + 1 }
    obtain ⟨nc, hnc⟩ : ∃ nc, (Question.appendCap (xs.length + ys.length) c et).cut (w.tape w.drawn (.appendCap (xs.length + ys.length) c et)) = nc := ⟨_, rfl⟩
    have hge : xs.length + ys.length ≤ nc := by
      rw [← hnc]
      show _ ≤ (xs.length + ys.length) + _
      omega
    have hblk : xs.flatMap E.cells ++ ys.flatMap E.cells = (xs ++ ys).flatMap E.cells := by rw [List.flatMap_append]
    refine ⟨some ⟨w.heap.size, 0, none⟩, nc, ({ w with drawn := w.drawn + 1 } : World).alloc (.cells ((xs ++ ys).flatMap E.cells ++ (Builtin.zeroCells z2.cells (nc - (xs.length + ys.length))).toList).toArray et), ?_, ?_⟩
    · simp only [Builtin.append_, List.getElem?_toArray, List.getElem?_cons_zero, List.getElem?_cons_succ, Sem.run_bind, Sem.run_pure, run_und, Result.andThen_ok, hsz.out, hd1, Bool.false_eq_true, if_false, hlen, Bool.not_false, if_true, hfit, hi, hib, h48, hint, false_and, run_choose, hq, hnc, hi2, run_askRoom, hold2, hnew2, hzr2, newRow, run_newObj, List.length_append, World.alloc]
      congr 3
      congr 1
      apply Array.ext'
      simp [List.flatMap_append]
    · have hs3 := (hs.le (LE.pick hp LE.drop)).drew
      refine hs3.alloc _ (.inr ⟨w.heap.size, 0, (Builtin.zeroCells z2.cells (nc - (xs.length + ys.length))).toList, rfl, by simp only [List.length_append]; exact hge, ?_, fun v hv => hz12 v (zeroCells_mem (by rw [hzs2]; exact hz0) v (Array.mem_toList_iff.1 hv)), new_cells (w := { w with drawn := w.drawn + 1 })⟩)
      rw [Array.length_toList, zeroCells_len, hzs2, List.length_append]
section
variable {α : Type} {P : Program} {N : Nat} {e : Env} {L L' : List Hp} {F : Fr} {Q : Exit → Act → World → Prop} {ops : Array Oper} {d : Nat} {t t' et : TypeId} {B : Nat} {d' : TypeDesc} {p : String} {af : Array Edge} {rest : List Oper} {x y : Operand} {v : Value} {n c m : Nat} {A : Option Addr} {xs ys : List α} {cs : List Value} {v1 : TypeId} {E : Enc α}
class NotInt (d : TypeDesc) : Prop where out : ∀ k, d ≠ .int k
instance notInt_slice {k : TypeId} : NotInt (.slice k) := ⟨fun _ h => by cases h⟩
instance notInt_string : NotInt .string := ⟨fun _ h => by cases h⟩
theorem j_append [hx : EvO e x (.slice A n c)] [hy : EvO e y v] [ht : Und P t (.slice et)] [ht' : Und P t' d'] [hni : NotInt d'] [hsz : Siz P et m] [hB : Byt P et B] [hz : ZCells P et m] [hp : OwnIn L A E c xs L'] [src : Src P L F E v ys] [he : EncSz E m] (hn : n = xs.length) (hd : Nat.blt d N = true) (hb : Nat.blt 0 B = true)
    (hlim : (xs.length + ys.length + (xs.length + ys.length) / 4 + 512) * B ≤ 281474976710656) (h : ∀ A' c', J N ((d, .slice A' (xs ++ ys).length c') :: e) (own E A' c' (xs ++ ys) :: L') F (wpList P ops Q rest)) :
    J N e L F (wpList P ops Q (⟨some d, .call { callee := .builtin .append, args := #[x, y], argTypes := #[t, t'] }, v1, p, af, none⟩ :: rest)) :=
  j_run rfl fun a w hf hs => by
    have e1 : E.sz = m := he.out
    subst e1
    have hb' : 0 < B := by simpa [Nat.blt_eq] using hb
    have h2 : (xs.length + ys.length + (xs.length + ys.length) / 4 + 512) ≤ (xs.length + ys.length + (xs.length + ys.length) / 4 + 512) * B := Nat.le_mul_of_pos_right _ hb'
    have hmax : xs.length + ys.length ≤ 9223372036854775807 := by
      have h3 := Nat.le_trans h2 hlim
      omega
    obtain ⟨A', c', w', r1, r2⟩ := hs.append (P := P) (t := t) (t' := t') (et := et) (B := B) (d' := d') hni.out hn hp.out (sv := v) hlim hmax v1
    refine ⟨_, w', ?_, h A' c' _ w' (hf.put hd _) r2⟩
    simp only [execOp, resolve, invoke, builtin, List.map_toArray, List.map_cons, List.map_nil, hx.out hf, hy.out hf, Sem.run_bind, Sem.run_pure, Result.andThen_ok, r1]
end
end Go.Proofs.YtjmicpkinflofaaDoor.S
