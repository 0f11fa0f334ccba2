/- The walk: cells, slices; loads, stores, new blocks. Generic over programs. -/
import Derived.Test.YtjmicpkinflofaaDoorS2
namespace Go.Proofs.YtjmicpkinflofaaDoor.S
open Go.RowKit
set_option linter.unusedVariables false
set_option linter.unusedSimpArgs false

/-! ### What the program's tables say of its types -/
class Und (P : Program) (t : TypeId) (d : outParam TypeDesc) : Prop where out : P.underlying t = some d
class Siz (P : Program) (t : TypeId) (n : outParam Nat) : Prop where out : ∀ w, (sizeOf t).run P w = .ok n w
class Agg (P : Program) (t : TypeId) (b : outParam Bool) : Prop where out : ∀ w, (isAgg t).run P w = .ok b w
class Zro (P : Program) (t : TypeId) (z : outParam Value) : Prop where out : ∀ w, (zeroValue t).run P w = .ok z w
class Byt (P : Program) (t : TypeId) (n : outParam Nat) : Prop where out : ∀ w, ∃ i, (typeInfo t).run P w = .ok i w ∧ i.bytes = n
/-- Field f of the struct type t lies k cells on. -/
class FOff (P : Program) (t : TypeId) (f : Nat) (k : outParam Nat) : Prop where out : ∀ a w, (Instr.fieldAt t (.pointer (some a)) f).run P w = .ok (.pointer (some (a.add k))) w
/-- Field f of a value of the struct type t. -/
class FVal (P : Program) (t : TypeId) (f : Nat) (k : outParam Nat) (g : outParam (Option Nat)) : Prop where
  out : ∀ cs w, (Instr.field t (.agg cs) f).run P w = (match g with | none => (match cs[k]? with | some v => .ok v w | none => .halt (.stuck "part: no such cell") w) | some n => .ok (.agg (cs.extract k (k + n))) w)
theorem run_und {P : Program} {t : TypeId} {d : TypeDesc} [h : Und P t d] (w : World) : (underlying t).run P w = .ok d w := by
  simp only [underlying, Sem.run_bind, run_program, Result.andThen_ok, h.out, Sem.run_pure]
theorem fOff_of {P : Program} {t f k n : Nat} {fs : Array Field} {fl : Field} (hu : P.underlying t = some (.struct fs)) (hf : fs[f]? = some fl) (hs : ∀ w, (sizeOf fl.type).run P w = .ok (n + 1) w) (hk : fl.offset = k) : FOff P t f k := ⟨fun a w => by
  have : Und P t (.struct fs) := ⟨hu⟩
  simp only [Instr.fieldAt, Sem.run_bind, run_und, Result.andThen_ok, hf, Instr.sureAddr, Sem.run_pure, fieldPlace, hs, Nat.add_one_ne_zero, if_false, hk]⟩
theorem fVal_one {P : Program} {t f k : Nat} {fs : Array Field} {fl : Field} (hu : P.underlying t = some (.struct fs)) (hf : fs[f]? = some fl) (ha : ∀ w, (isAgg fl.type).run P w = .ok false w) (hk : fl.offset = k) : FVal P t f k none := ⟨fun cs w => by
  have : Und P t (.struct fs) := ⟨hu⟩
  simp only [Instr.field, Sem.run_bind, run_und, Result.andThen_ok, hf, asAgg, Sem.run_pure, part, ha, hk, Bool.false_eq_true, if_false]
  cases cs[k]? <;> rfl⟩
theorem fVal_agg {P : Program} {t f k n : Nat} {fs : Array Field} {fl : Field} (hu : P.underlying t = some (.struct fs)) (hf : fs[f]? = some fl) (ha : ∀ w, (isAgg fl.type).run P w = .ok true w) (hs : ∀ w, (sizeOf fl.type).run P w = .ok n w) (hk : fl.offset = k) : FVal P t f k (some n) := ⟨fun cs w => by
  have : Und P t (.struct fs) := ⟨hu⟩
  simp only [Instr.field, Sem.run_bind, run_und, Result.andThen_ok, hf, asAgg, Sem.run_pure, part, ha, hs, hk, if_true]⟩

section
variable {P : Program} {e : Env} {L : List Hp} {F : Fr} {d : Option Nat} {t u : TypeId} {p : String} {af : Array Edge} {g : Option (Nat × Bool)} {x y : Operand} {v1 et : TypeId} {a : Addr} {b c : Bool}
theorem guard_ptr {op : BinOp} {w : World} {a b : Option Addr} : (eqGuard op t x y (.pointer a) (.pointer b)).run P w = .ok () w := by
  unfold eqGuard
  cases op <;> simp
theorem guard_bool {op : BinOp} {w : World} {a b : Bool} : (eqGuard op t x y (.bool a) (.bool b)).run P w = .ok () w := by
  unfold eqGuard
  cases op <;> simp
theorem eqIn_nil_nil {n : Nat} {w : World} [ht : Und P t (.pointer et)] : (Op.equalIn (n + 1) t (.pointer none) (.pointer none)).run P w = .ok true w := by simp [Op.equalIn, run_und]
theorem eqIn_ptr_nil {n : Nat} {w : World} [ht : Und P t (.pointer et)] : (Op.equalIn (n + 1) t (.pointer (some a)) (.pointer none)).run P w = .ok false w := by simp [Op.equalIn, run_und]
theorem eqIn_bool {n : Nat} {w : World} [ht : Und P t .bool] : (Op.equalIn (n + 1) t (.bool b) (.bool c)).run P w = .ok (b == c) w := by simp [Op.equalIn, run_und]
theorem bin_eql {w : World} {r : Bool} {v1 v2 : Value} (h : (Op.equalIn (9999 + 1) t v1 v2).run P w = .ok r w) (h1 : binOp .eql t v1 v2 = (do pure (.bool (← Op.equal t v1 v2)))) : (binOp .eql t v1 v2).run P w = .ok (.bool r) w := by
  have h2 : (Op.equal t v1 v2).run P w = .ok r w := h
  rw [h1]
  simp only [Sem.run_bind, h2, Result.andThen_ok, Sem.run_pure]
theorem bin_neq {w : World} {r : Bool} {v1 v2 : Value} (h : (Op.equalIn (9999 + 1) t v1 v2).run P w = .ok r w) (h1 : binOp .neq t v1 v2 = (do pure (.bool (!(← Op.equal t v1 v2))))) : (binOp .neq t v1 v2).run P w = .ok (.bool (!r)) w := by
  have h2 : (Op.equal t v1 v2).run P w = .ok r w := h
  rw [h1]
  simp only [Sem.run_bind, h2, Result.andThen_ok, Sem.run_pure]
theorem run_binop {o : BinOp} {act : Act} {N : Nat} {w : World} {v1' v2' v : Value} (hf : Fits N e act) [hx : EvO e x v1'] [hy : EvO e y v2'] (hg : (eqGuard o t x y v1' v2').run P w = .ok () w) (hb : (binOp o t v1' v2').run P w = .ok v w) :
    (execOp act.eval ⟨d, .binOp o t x y u, v1, p, af, g⟩).run P w = .ok (.value v) w := by
  simp only [execOp, hx.out hf, hy.out hf, hg, hb, Sem.run_bind, Result.andThen_ok, Sem.run_pure]
instance sv_eql_nil_nil [hx : EvO e x (.pointer none)] [hy : EvO e y (.pointer none)] [ht : Und P t (.pointer et)] : StepV P e L F ⟨d, .binOp .eql t x y u, v1, p, af, g⟩ (.bool true) := ⟨fun hf _ => run_binop hf guard_ptr (bin_eql eqIn_nil_nil rfl)⟩
instance sv_eql_ptr_nil [hx : EvO e x (.pointer (some a))] [hy : EvO e y (.pointer none)] [ht : Und P t (.pointer et)] : StepV P e L F ⟨d, .binOp .eql t x y u, v1, p, af, g⟩ (.bool false) := ⟨fun hf _ => run_binop hf guard_ptr (bin_eql eqIn_ptr_nil rfl)⟩
instance sv_neq_nil_nil [hx : EvO e x (.pointer none)] [hy : EvO e y (.pointer none)] [ht : Und P t (.pointer et)] : StepV P e L F ⟨d, .binOp .neq t x y u, v1, p, af, g⟩ (.bool false) := ⟨fun hf _ => run_binop hf guard_ptr (bin_neq eqIn_nil_nil rfl)⟩
instance sv_neq_ptr_nil [hx : EvO e x (.pointer (some a))] [hy : EvO e y (.pointer none)] [ht : Und P t (.pointer et)] : StepV P e L F ⟨d, .binOp .neq t x y u, v1, p, af, g⟩ (.bool true) := ⟨fun hf _ => run_binop hf guard_ptr (bin_neq eqIn_ptr_nil rfl)⟩
instance sv_eql_bool [hx : EvO e x (.bool b)] [hy : EvO e y (.bool c)] [ht : Und P t .bool] : StepV P e L F ⟨d, .binOp .eql t x y u, v1, p, af, g⟩ (.bool (b == c)) := ⟨fun hf _ => run_binop hf guard_bool (bin_eql eqIn_bool rfl)⟩
instance sv_neq_bool [hx : EvO e x (.bool b)] [hy : EvO e y (.bool c)] [ht : Und P t .bool] : StepV P e L F ⟨d, .binOp .neq t x y u, v1, p, af, g⟩ (.bool (b != c)) := ⟨fun hf _ => run_binop hf guard_bool (bin_neq eqIn_bool rfl)⟩
end

/-! ### Cells -/
def cells (b o : Nat) (vs : List Value) : Hp := fun h => h = fun b' o' => if b' = b ∧ o ≤ o' then (vs[o' - o]?).map (fun v => Cell.val v false) else none
theorem add_off (b o i : Nat) : (⟨b, o, none⟩ : Addr).add i = ⟨b, o + i, none⟩ := by
  unfold Addr.add
  by_cases h : i = 0
  · subst h; simp
  · simp [h]
/-- The value at a place. -/
class CA (L : List Hp) (F : Fr) (b o : Nat) (v : outParam Value) : Prop where
  out : ∀ {h : Heap}, stars L h → Heap.dj h F.h → ∃ fr, Heap.un h F.h b o = some (.val v fr)
theorem CA.cell {L : List Hp} {F : Fr} {b o : Nat} {v : Value} (c : CA L F b o v) {w : World} (hs : Sat L F w) : w.cell? ⟨b, o, none⟩ = some v := by
  obtain ⟨h, hl, hd, h1, h2, h3, h4⟩ := hs
  obtain ⟨fr, hfr⟩ := c.out hl hd
  rcases Heap.un_some.1 hfr with h5 | ⟨_, h5⟩
  · exact (wat_cell (h1 _ _ _ h5)).1
  · exact (wat_cell (h2 _ _ _ h5)).1
instance (priority := high) ca_here {L : List Hp} {F : Fr} {b o k : Nat} {vs : List Value} {v : Value} [n : NthV vs k v] : CA (cells b o vs :: L) F b (o + k) v := ⟨by
  rintro h ⟨h1, h2, hd, rfl, rfl, hl⟩ _
  exact ⟨false, Heap.un_left (Heap.un_left (by simp [n.out]))⟩⟩
instance (priority := high) ca_here0 {L : List Hp} {F : Fr} {b o : Nat} {vs : List Value} {v : Value} [n : NthV vs 0 v] : CA (cells b o vs :: L) F b o v := ⟨by
  rintro h ⟨h1, h2, hd, rfl, rfl, hl⟩ _
  exact ⟨false, Heap.un_left (Heap.un_left (by simp [n.out]))⟩⟩
instance (priority := high) ca_here2 {L : List Hp} {F : Fr} {b o j k : Nat} {vs : List Value} {v : Value} [n : NthV vs (j + k) v] : CA (cells b o vs :: L) F b (o + j + k) v := ⟨by
  rw [Nat.add_assoc]
  exact (ca_here (F := F) (L := L) (o := o) (k := j + k)).out⟩
instance (priority := low) ca_there {c : Hp} {L : List Hp} {F : Fr} {b o : Nat} {v : Value} [n : CA L F b o v] : CA (c :: L) F b o v := ⟨by
  rintro h ⟨h1, h2, hd, rfl, hc, hl⟩ hdf
  obtain ⟨fr, hfr⟩ := n.out hl (Heap.dj_un_left.1 hdf).2
  refine ⟨fr, ?_⟩
  rw [Heap.un_assoc]
  exact Heap.un_right (Heap.dj_un_right.2 ⟨hd, (Heap.dj_un_left.1 hdf).1⟩) hfr⟩
/-- The values at n places. -/
class CAs (L : List Hp) (F : Fr) (b o n : Nat) (vs : outParam (List Value)) : Prop where
  out : vs.length = n ∧ ∀ {h : Heap}, stars L h → Heap.dj h F.h → ∀ j v, vs[j]? = some v → ∃ fr, Heap.un h F.h b (o + j) = some (.val v fr)
theorem CAs.cell {L : List Hp} {F : Fr} {b o n : Nat} {vs : List Value} (c : CAs L F b o n vs) {w : World} (hs : Sat L F w) {j : Nat} {v : Value} (hj : vs[j]? = some v) : w.cell? ⟨b, o + j, none⟩ = some v := by
  have : CA L F b (o + j) v := ⟨fun hl hd => c.out.2 hl hd j v hj⟩
  exact this.cell hs
theorem sub_get {vs ws : List Value} {k n j : Nat} {v : Value} (h : SubV vs k n ws) (hj : ws[j]? = some v) : vs[k + j]? = some v := by
  rw [← h.out.2, List.getElem?_take] at hj
  split at hj
  · rwa [List.getElem?_drop] at hj
  · cases hj
theorem sub_len {vs ws : List Value} {k n : Nat} (h : SubV vs k n ws) : ws.length = n := by
  rw [← h.out.2]; have := h.out.1; simp; omega
instance (priority := high) cas_here {L : List Hp} {F : Fr} {b o k n : Nat} {vs ws : List Value} [s : SubV vs k n ws] : CAs (cells b o vs :: L) F b (o + k) n ws := ⟨sub_len s, by
  rintro h ⟨h1, h2, hd, rfl, rfl, hl⟩ _ j v hj
  exact ⟨false, Heap.un_left (Heap.un_left (by
    have := sub_get s hj
    simp only [true_and, show o ≤ o + k + j by omega, if_true, show o + k + j - o = k + j by omega, this, Option.map_some]))⟩⟩
instance (priority := high) cas_here0 {L : List Hp} {F : Fr} {b o n : Nat} {vs ws : List Value} [s : SubV vs 0 n ws] : CAs (cells b o vs :: L) F b o n ws := ⟨sub_len s, by
  rintro h ⟨h1, h2, hd, rfl, rfl, hl⟩ _ j v hj
  exact ⟨false, Heap.un_left (Heap.un_left (by
    have := sub_get s hj
    rw [Nat.zero_add] at this
    simp only [true_and, show o ≤ o + j by omega, if_true, show o + j - o = j by omega, this, Option.map_some]))⟩⟩
instance (priority := high) cas_here2 {L : List Hp} {F : Fr} {b o j k n : Nat} {vs ws : List Value} [s : SubV vs (j + k) n ws] : CAs (cells b o vs :: L) F b (o + j + k) n ws := by
  rw [Nat.add_assoc]
  exact cas_here
instance (priority := low) cas_there {c : Hp} {L : List Hp} {F : Fr} {b o n : Nat} {vs : List Value} [s : CAs L F b o n vs] : CAs (c :: L) F b o n vs := ⟨s.out.1, by
  rintro h ⟨h1, h2, hd, rfl, hc, hl⟩ hdf j v hj
  obtain ⟨fr, hfr⟩ := s.out.2 hl (Heap.dj_un_left.1 hdf).2 j v hj
  refine ⟨fr, ?_⟩
  rw [Heap.un_assoc]
  exact Heap.un_right (Heap.dj_un_right.2 ⟨hd, (Heap.dj_un_left.1 hdf).1⟩) hfr⟩
theorem run_loadCellsFrom {P : Program} {w : World} {b o : Nat} {vs : List Value} (h : ∀ j v, vs[j]? = some v → w.cell? ⟨b, o + j, none⟩ = some v) :
    ∀ (m i : Nat) (acc : Array Value), i + m = vs.length → (loadCellsFrom ⟨b, o, none⟩ i m acc).run P w = .ok (acc ++ (vs.drop i).toArray) w
  | 0, i, acc, hi => by
    simp only [loadCellsFrom, Sem.run_pure]
    rw [List.drop_of_length_le (by omega)]
    simp
  | m + 1, i, acc, hi => by
    obtain ⟨v, hv⟩ : ∃ v, vs[i]? = some v := ⟨_, List.getElem?_eq_getElem (by omega)⟩
    have hc := h i v hv
    simp only [loadCellsFrom, Sem.run_bind, run_load, add_off, hc, Result.andThen_ok]
    rw [run_loadCellsFrom h m (i + 1) _ (by omega)]
    congr 1
    rw [List.drop_eq_getElem_cons (i := i) (by omega)]
    have : vs[i] = v := by rw [List.getElem?_eq_getElem (by omega)] at hv; exact Option.some.inj hv
    rw [this]
    apply Array.ext'
    simp
theorem run_loadCells {P : Program} {w : World} {b o n : Nat} {vs : List Value} (hn : vs.length = n) (h : ∀ j v, vs[j]? = some v → w.cell? ⟨b, o + j, none⟩ = some v) : (loadCells ⟨b, o, none⟩ n).run P w = .ok vs.toArray w := by
  unfold loadCells
  rw [run_loadCellsFrom h n 0 #[] (by omega)]
  simp
section
variable {P : Program} {e : Env} {L : List Hp} {F : Fr} {d : Option Nat} {t u : TypeId} {p : String} {af : Array Edge} {g : Option (Nat × Bool)} {x y z : Operand} {v : Value} {b o n k f : Nat} {vs ws : List Value} {v1 : TypeId}
instance sv_load [hx : EvO e x (.pointer (some ⟨b, o, none⟩))] [ha : Agg P t false] [c : CA L F b o v] : StepV P e L F ⟨d, .load t x, v1, p, af, g⟩ v := ⟨fun hf hs => by
  simp only [execOp, hx.out hf, Instr.loadAt, Instr.sureAddr, loadVar, Sem.run_bind, Sem.run_pure, Result.andThen_ok, ha.out, Bool.false_eq_true, if_false, run_load, c.cell hs]⟩
instance sv_loads [hx : EvO e x (.pointer (some ⟨b, o, none⟩))] [ha : Agg P t true] [hz : Siz P t n] [c : CAs L F b o n vs] : StepV P e L F ⟨d, .load t x, v1, p, af, g⟩ (.agg vs.toArray) := ⟨fun hf hs => by
  simp only [execOp, hx.out hf, Instr.loadAt, Instr.sureAddr, loadVar, Sem.run_bind, Sem.run_pure, Result.andThen_ok, ha.out, if_true, hz.out, run_loadCells c.out.1 (fun j v hj => c.cell hs hj)]⟩
/-- Addresses of fields. -/
class AddO (o k : Nat) (o' : outParam Nat) : Prop where out : o' = o + k
instance (priority := high) addO_zero {o : Nat} : AddO o 0 o := ⟨rfl⟩
instance addO_add {o k : Nat} : AddO o k (o + k) := ⟨rfl⟩
instance sv_fieldAddr {o' : Nat} [hx : EvO e x (.pointer (some ⟨b, o, none⟩))] [hk : FOff P t f k] [ho : AddO o k o'] : StepV P e L F ⟨d, .fieldAddr t x f, v1, p, af, g⟩ (.pointer (some ⟨b, o', none⟩)) := ⟨fun hf hs => by
  simp only [execOp, hx.out hf, hk.out, Sem.run_bind, Sem.run_pure, Result.andThen_ok, add_off, ho.out]⟩
instance sv_field [hx : EvO e x (.agg vs.toArray)] [hk : FVal P t f k none] [hn : NthV vs k v] : StepV P e L F ⟨d, .field t x f, v1, p, af, g⟩ v := ⟨fun hf hs => by
  have h2 : vs.toArray[k]? = some v := by rw [List.getElem?_toArray]; exact hn.out
  simp only [execOp, hx.out hf, hk.out, Sem.run_bind, Sem.run_pure, Result.andThen_ok, h2]⟩
instance sv_field_agg [hx : EvO e x (.agg vs.toArray)] [hk : FVal P t f k (some n)] [hn : SubV vs k n ws] : StepV P e L F ⟨d, .field t x f, v1, p, af, g⟩ (.agg ws.toArray) := ⟨fun hf hs => by
  have h2 : vs.toArray.extract k (k + n) = ws.toArray := by
    apply Array.ext'
    simp [← hn.out.2, List.drop_take]
  simp only [execOp, hx.out hf, hk.out, Sem.run_bind, Sem.run_pure, Result.andThen_ok, h2]⟩
end
theorem cells_iff {b o : Nat} {vs : List Value} {h : Heap} : cells b o vs h ↔ h = fun b' o' => if b' = b ∧ o ≤ o' then (vs[o' - o]?).map (fun v => Cell.val v false) else none := Iff.rfl
attribute [irreducible] cells
end Go.Proofs.YtjmicpkinflofaaDoor.S
