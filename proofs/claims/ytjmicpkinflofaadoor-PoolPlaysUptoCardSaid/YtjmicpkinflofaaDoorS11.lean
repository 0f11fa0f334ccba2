/- The walk: structs compared; entries of maps; maps cloned; ends of slices. Generic over programs. -/
import Derived.Test.YtjmicpkinflofaaDoorS10
import Derived.Laws.StructEq
import Derived.Laws.Externs
namespace Go.Proofs.YtjmicpkinflofaaDoor.S
open Go.RowKit
set_option linter.unusedVariables false
set_option linter.unusedSimpArgs false

/-! ### What holds between two parts -/
def Mid (N : Nat) (F : Fr) (I : Env → List Hp → Prop) (a : Act) (w : World) : Prop := ∃ e L, I e L ∧ Fits N e a ∧ Sat L F w
section
variable {P : Program} {N : Nat} {e e' : Env} {L L' : List Hp} {F : Fr} {Q : Exit → Act → World → Prop}
theorem j_mid {x y : Code} (I : Env → List Hp → Prop) (h1 : J N e L F (x.wp P (Exit.then (Mid N F I) Q))) (h2 : ∀ e L, I e L → J N e L F (y.wp P Q)) : J N e L F ((Code.seq x y).wp P Q) :=
  fun a w hf hs => wp_seq (wp_mono (h1 a w hf hs) (fun ex a' w' hq => by
    cases ex with
    | normal => obtain ⟨e2, L2, hI, hf2, hs2⟩ := hq; exact h2 e2 L2 hI a' w' hf2 hs2
    | _ => exact hq))
theorem j_join {x : Code} {K : Act → World → Prop} (I : Env → List Hp → Prop) (h1 : J N e L F (x.wp P (Exit.then (Mid N F I) Q))) (h2 : ∀ e L, I e L → J N e L F K) : J N e L F (x.wp P (Exit.then K Q)) :=
  fun a w hf hs => wp_mono (h1 a w hf hs) (fun ex a' w' hq => by
    cases ex with
    | normal => obtain ⟨e2, L2, hI, hf2, hs2⟩ := hq; exact h2 e2 L2 hI a' w' hf2 hs2
    | _ => exact hq)
theorem j_mid_end {I : Env → List Hp → Prop} (e' : Env) (L' : List Hp) (hI : I e' L') (hk : ∀ t v, Env.get e' t = some v → e.get t = some v) (hl : LE L L') : J N e L F (Mid N F I) := fun a w hf hs => ⟨e', L', hI, ⟨hf.defers, hf.size, fun t v hv => hf.get t v (hk t v hv)⟩, hs.le hl⟩
end
/-- Cells in two parts. -/
theorem cells_two {b o k : Nat} {vs : List Value} (hk : k ≤ vs.length) {h : Heap} (hc : cells b o vs h) : ∃ h1 h2, Heap.dj h1 h2 ∧ h = Heap.un h1 h2 ∧ cells b o (vs.take k) h1 ∧ cells b (o + k) (vs.drop k) h2 := by
  rw [cells_iff] at hc
  subst hc
  refine ⟨_, _, ?_, ?_, (cells_iff (vs := vs.take k)).2 rfl, (cells_iff (vs := vs.drop k)).2 rfl⟩
  · intro b' o'
    by_cases h1 : b' = b ∧ o + k ≤ o'
    · left
      dsimp only
      obtain ⟨rfl, h2⟩ := h1
      rw [if_pos ⟨rfl, by omega⟩, List.getElem?_take, if_neg (by omega)]
      rfl
    · right
      dsimp only
      rw [if_neg h1]
  · refine Heap.ext' fun b' o' => ?_
    unfold Heap.un
    dsimp only
    by_cases h1 : b' = b ∧ o ≤ o'
    · rw [if_pos h1, if_pos h1]
      obtain ⟨rfl, h2⟩ := h1
      rw [List.getElem?_take]
      by_cases h3 : o' - o < k
      · rw [if_pos h3]
        have : o' - o < vs.length := by omega
        rw [List.getElem?_eq_getElem this]
        rfl
      · rw [if_neg h3, Option.map_none, if_pos ⟨rfl, by omega⟩, List.getElem?_drop]
        show _ = Option.map _ vs[k + (o' - (o + k))]?
        rw [show k + (o' - (o + k)) = o' - o by omega]
    · rw [if_neg h1, if_neg h1, if_neg (fun hh => h1 ⟨hh.1, by omega⟩)]
theorem LE.cells_split {L L' : List Hp} {b o : Nat} {vs ws us : List Value} (hp : Pick (cells b o vs) L L') {k : Nat} (hk : Nat.ble k vs.length = true) (h1 : vs.take k = ws) (h2 : vs.drop k = us) : LE L (cells b o ws :: cells b (o + k) us :: L') := fun h hl => by
  obtain ⟨g1, g2, gd, rfl, gc, gl⟩ := (hp.stars h).1 hl
  obtain ⟨q1, q2, qd, rfl, c1, c2⟩ := cells_two (Nat.le_of_ble_eq_true hk) gc
  obtain ⟨d1, d2⟩ := Heap.dj_un_left.1 gd
  rw [h1] at c1
  rw [h2] at c2
  exact ⟨_, Heap.sub_refl, q1, Heap.un q2 g2, Heap.dj_un_right.2 ⟨qd, d1⟩, Heap.un_assoc, c1, q2, g2, d2, rfl, c2, gl⟩
/-! ### Values that are decided -/
section
variable {P : Program} {N : Nat} {e : Env} {L : List Hp} {F : Fr} {W : List Oper → Act → World → Prop} {ops : Array Oper} {d : Nat} {dst : Option Nat} {t v1 : TypeId} {p : String} {af : Array Edge} {g : Option (Nat × Bool)} {rest : List Oper} {x y z : Operand} {v : Value}
instance (priority := high) sv_not_t [hx : EvO e x (.bool true)] : StepV P e L F ⟨dst, .unOp .not t x, v1, p, af, g⟩ (.bool false) := sv_not (b := true)
instance (priority := high) sv_not_f [hx : EvO e x (.bool false)] : StepV P e L F ⟨dst, .unOp .not t x, v1, p, af, g⟩ (.bool true) := sv_not (b := false)
/-- What a comparison comes to, told before. -/
class Dec (q : Prop) (b : outParam Bool) : Prop where out : ∀ [Decidable q], decide q = b
theorem dec_t {q : Prop} (h : q) : Dec q true := ⟨decide_eq_true h⟩
theorem dec_f {q : Prop} (h : ¬ q) : Dec q false := ⟨decide_eq_false h⟩
section
variable {k : IntKind} {i j : Int} {s r : ByteArray} {u : TypeId} {b : Bool}
instance (priority := high) sv_eql_dec [hx : EvO e x (.int k i)] [hy : EvO e y (.int k j)] [h : Dec (i = j) b] : StepV P e L F ⟨dst, .binOp .eql t x y u, v1, p, af, g⟩ (.bool b) := by rw [← h.out]; exact sv_eql
instance (priority := high) sv_neq_dec [hx : EvO e x (.int k i)] [hy : EvO e y (.int k j)] [h : Dec (i ≠ j) b] : StepV P e L F ⟨dst, .binOp .neq t x y u, v1, p, af, g⟩ (.bool b) := by rw [← h.out]; exact sv_neq
instance (priority := high) sv_lss_dec [hx : EvO e x (.int k i)] [hy : EvO e y (.int k j)] [h : Dec (i < j) b] : StepV P e L F ⟨dst, .binOp .lss t x y u, v1, p, af, g⟩ (.bool b) := by rw [← h.out]; exact sv_lss
instance (priority := high) sv_leq_dec [hx : EvO e x (.int k i)] [hy : EvO e y (.int k j)] [h : Dec (i ≤ j) b] : StepV P e L F ⟨dst, .binOp .leq t x y u, v1, p, af, g⟩ (.bool b) := by rw [← h.out]; exact sv_leq
instance (priority := high) sv_gtr_dec [hx : EvO e x (.int k i)] [hy : EvO e y (.int k j)] [h : Dec (j < i) b] : StepV P e L F ⟨dst, .binOp .gtr t x y u, v1, p, af, g⟩ (.bool b) := by rw [← h.out]; exact sv_gtr
instance (priority := high) sv_geq_dec [hx : EvO e x (.int k i)] [hy : EvO e y (.int k j)] [h : Dec (j ≤ i) b] : StepV P e L F ⟨dst, .binOp .geq t x y u, v1, p, af, g⟩ (.bool b) := by rw [← h.out]; exact sv_geq
instance (priority := high) sv_eql_s_dec [hx : EvO e x (.string s)] [hy : EvO e y (.string r)] [h : Dec (s = r) b] : StepV P e L F ⟨dst, .binOp .eql t x y u, v1, p, af, g⟩ (.bool b) := by rw [← h.out]; exact sv_eql_s
instance (priority := high) sv_neq_s_dec [hx : EvO e x (.string s)] [hy : EvO e y (.string r)] [h : Dec (s ≠ r) b] : StepV P e L F ⟨dst, .binOp .neq t x y u, v1, p, af, g⟩ (.bool b) := by rw [← h.out]; exact sv_neq_s
end
theorem j_pickF [s : Steps' P ops W] [hx : EvO e x (.bool false)] [hz : EvO e z v] (hd : Nat.blt d N = true) (h : J N ((d, v) :: e) L F (W rest)) : J N e L F (W (⟨some d, .pick x y z, t, p, af, none⟩ :: rest)) := j_op hd h
theorem j_pickT [s : Steps' P ops W] [hx : EvO e x (.bool true)] [hy : EvO e y v] (hd : Nat.blt d N = true) (h : J N ((d, v) :: e) L F (W rest)) : J N e L F (W (⟨some d, .pick x y z, t, p, af, none⟩ :: rest)) := j_op hd h
end
/-- A guarded call that tells a value and leaves the chunks. -/
theorem j_gcallp {P : Program} {N : Nat} {e e' : Env} {L : List Hp} {F : Fr} {Q : Exit → Act → World → Prop} {ops : Array Oper} {d : Nat} {t : TypeId} {p : String} {af : Array Edge} {rest : List Oper} {f : FuncId} {vs : List Value} {R : Fr → Prop} {v0 : Value} {xs : List Operand} {ats : Array TypeId} {j d' : Nat} {b c : Bool} [hc : Callee P f] [hj : DstA ops j d'] [y : GetE e d' (.bool c)] [u : UnG e c b e'] [hx : EvOs e' xs vs]
    (spec : c = b → Spec P f vs [] R (fun v L => v = v0 ∧ L = [])) (hd : Nat.blt d N = true) (hR : ∀ F', FrExt L F F' → R F') (k : J N ((d, gv c b v0) :: e) L F (wpList P ops Q rest)) :
    J N e L F (wpList P ops Q (⟨some d, .call { callee := .value (.func f), args := xs.toArray, argTypes := ats }, t, p, af, some (j, b)⟩ :: rest)) := fun a w hf hs => by
  by_cases hcb : c = b
  · unfold wpList
    rw [if_pos (by simp [Region.wanted, yielded_of hf hj.out, hcb])]
    left
    unfold Oper.wp
    have hf' : Fits N e' a := ⟨hf.defers, hf.size, fun t u hu => hf.get t u (UnG.out hcb t u hu)⟩
    rw [run_call (vs := vs) hf', Oper.upon_enter]
    refine (calls_frame (spec hcb) .nil hR hs).mono ?_
    rintro e2 w' ⟨v, L', rfl, ⟨rfl, rfl⟩, hs'⟩
    exact k _ w' (by have := hf.put hd v; unfold gv; rw [if_pos hcb]; exact this) hs'
  · unfold wpList
    rw [if_neg (by simp [Region.wanted, yielded_of hf hj.out, hcb])]
    exact k _ w (by have := hf.put hd undef; unfold gv; rw [if_neg hcb]; exact this) hs
/-! ### Results of both sorts -/
class ResL (fn : Func) (rs : outParam (List ResultVar)) : Prop where out : fn.results = rs.toArray
def resOf (tmps : Array Value) : ResultVar → Sem Value
  | .tmp t => pure (tmps.getD t undef)
  | .cell a t => do loadVar t (← asAddr (tmps.getD a undef))
theorem results_eq (fn : Func) (tmps : Array Value) : results fn tmps = (do
    let vs ← fn.results.mapM (resOf tmps)
    pure (if h : vs.size = 1 then vs[0] else .tuple vs)) := rfl
class RV (P : Program) (e : Env) (L : List Hp) (F : Fr) (r : ResultVar) (v : outParam Value) : Prop where
  out : ∀ {N : Nat} {a : Act} {w : World}, Fits N e a → Sat L F w → (resOf a.tmps r).run P w = .ok v w
section
variable {P : Program} {N : Nat} {e : Env} {L : List Hp} {F : Fr} {t s b o n : Nat} {v : Value} {vs us : List Value} {r : ResultVar} {rs : List ResultVar} {S : Value → List Hp → Prop} {fn : Func} {x : Exit}
theorem getD_of {a : Act} (hf : Fits N e a) [g : GetE e s v] : a.tmps.getD s undef = v := by rw [Array.getD_eq_getD_getElem?, hf.get _ _ g.out]; rfl
instance rv_tmp [g : GetE e t v] : RV P e L F (.tmp t) v := ⟨fun hf _ => by simp only [resOf, getD_of (v := v) hf, Sem.run_pure]⟩
instance rv_cell [g : GetE e s (.pointer (some ⟨b, o, none⟩))] [ha : Agg P t false] [c : CA L F b o v] : RV P e L F (.cell s t) v := ⟨fun hf hs => by
  simp only [resOf, getD_of (v := .pointer (some ⟨b, o, none⟩)) hf, asAddr, loadVar, Sem.run_bind, Sem.run_pure, Result.andThen_ok, ha.out, Bool.false_eq_true, if_false, run_load, c.cell hs]⟩
instance rv_cells [g : GetE e s (.pointer (some ⟨b, o, none⟩))] [ha : Agg P t true] [hz : Siz P t n] [c : CAs L F b o n vs] : RV P e L F (.cell s t) (.agg vs.toArray) := ⟨fun hf hs => by
  have hl2 : ∀ w, Sat L F w → (loadCells ⟨b, o, none⟩ n).run P w = .ok vs.toArray w := fun w hs => run_loadCells c.out.1 (fun j v hj => c.cell hs hj)
  simp only [resOf, getD_of (v := .pointer (some ⟨b, o, none⟩)) hf, asAddr, loadVar, Sem.run_bind, Sem.run_pure, Result.andThen_ok, ha.out, if_true, hz.out, hl2 _ hs]⟩
class RVs (P : Program) (e : Env) (L : List Hp) (F : Fr) (rs : List ResultVar) (vs : outParam (List Value)) : Prop where
  out : ∀ {N : Nat} {a : Act} {w : World}, Fits N e a → Sat L F w → (rs.mapM (resOf a.tmps)).run P w = .ok vs w
instance rvs_nil : RVs P e L F [] [] := ⟨fun _ _ => rfl⟩
instance rvs_cons [h : RV P e L F r v] [g : RVs P e L F rs vs] : RVs P e L F (r :: rs) (v :: vs) := ⟨fun hf hs => by
  rw [List.mapM_cons]
  simp only [Sem.run_bind, h.out hf hs, Result.andThen_ok, g.out hf hs, Sem.run_pure]⟩
theorem j_doneM (hx : x = .ret ∨ x = .normal) [hr : ResL fn rs] [g : RVs P e L F rs vs] [r1 : Result1 vs v] (h : ∃ L', S v L' ∧ LE L L') : J N e L F (bodyPost P fn (Post F S) x) := fun a w hf hs => by
  obtain ⟨L', hQ, hl⟩ := h
  have h1 : (results fn a.tmps).run P w = .ok v w := by
    have h2 := g.out hf hs
    rw [results_eq, hr.out, List.mapM_toArray]
    simp only [Sem.run_bind, Sem.run_map, Sem.run_pure]
    rw [h2, r1.out]
    simp only [Result.andThen_ok, List.size_toArray, List.getElem_toArray]
  rcases hx with rfl | rfl
  · exact bodyPost_ret h1 hf.defers ⟨v, L', rfl, hQ, hs.le hl⟩
  · exact bodyPost_end h1 hf.defers ⟨v, L', rfl, hQ, hs.le hl⟩
end
/-! ### Structs compared -/
class StrT (P : Program) (t : TypeId) (l : outParam (List (TypeId × Nat))) : Prop where
  out : ∃ fs : Array Field, P.underlying t = some (.struct fs) ∧ P.stoodInHeld t = false ∧ P.eqGuardType P.depth t = false ∧ fs.toList.map (fun f => (f.type, f.offset)) = l ∧ ∀ f ∈ fs.toList, f.name ≠ "_"
class EqT (P : Program) (t : TypeId) (v u : Value) (n : outParam Nat) (b : outParam Bool) : Prop where
  out : ∀ d w, n ≤ d → (Op.equalIn d t v u).run P w = .ok b w
/-- Field by field. -/
class EqFs (P : Program) (l : List (TypeId × Nat)) (vs us : List Value) (n : outParam Nat) (b : outParam Bool) : Prop where
  out : ∀ (fs : List Field) d w, n ≤ d → fs.map (fun f => (f.type, f.offset)) = l → (∀ f ∈ fs, f.name ≠ "_") → (Op.eqFields d vs.toArray us.toArray fs).run P w = .ok b w
section
variable {P : Program} {t : TypeId} {vs us : List Value} {i j : Int} {k : IntKind} {s r : ByteArray} {a b c : Bool} {n m o z : Nat} {v u : Value} {l : List (TypeId × Nat)} {ws xs : List Value}
instance eqT_int [h : Und P t (.int k)] : EqT P t (.int k i) (.int k j) 1 (decide (i = j)) := ⟨fun d w hd => by
  obtain ⟨d, rfl⟩ : ∃ d', d = d' + 1 := ⟨d - 1, by omega⟩
  have h1 : P.underlying t = some (.int k) := h.out
  rw [run_equalIn_int w d t k k i j h1]
  congr 1⟩
instance eqT_bool [h : Und P t .bool] : EqT P t (.bool a) (.bool b) 1 (a == b) := ⟨fun d w hd => by
  obtain ⟨d, rfl⟩ : ∃ d', d = d' + 1 := ⟨d - 1, by omega⟩
  exact eqIn_bool⟩
instance eqT_string [h : Und P t .string] : EqT P t (.string s) (.string r) 1 (decide (s = r)) := ⟨fun d w hd => by
  obtain ⟨d, rfl⟩ : ∃ d', d = d' + 1 := ⟨d - 1, by omega⟩
  simp only [Op.equalIn, Sem.run_bind, run_und, Result.andThen_ok, Sem.run_pure, bbeq]⟩
instance eqFs_nil : EqFs P [] vs us 0 true := ⟨fun fs d w _ hl _ => by
  cases fs with
  | nil => rfl
  | cons f fs => cases hl⟩
theorem eqFs_step {l : List (TypeId × Nat)} (hv : ∀ w, (part t vs.toArray o).run P w = .ok v w) (hu : ∀ w, (part t us.toArray o).run P w = .ok u w) [g : EqT P t v u n a] [h : EqFs P l vs us m b] : EqFs P ((t, o) :: l) vs us (n + m) (a && b) := ⟨fun fs d w hd hl hn => by
  cases fs with
  | nil => cases hl
  | cons f fs =>
    injection hl with h1 h2
    injection h1 with h3 h4
    subst h3 h4
    simp only [Op.eqFields, if_pos (hn f List.mem_cons_self), Sem.run_bind, hv, hu, Result.andThen_ok, g.out d w (by omega)]
    cases a
    · simp only [Bool.not_false, if_true, Sem.run_pure, Bool.false_and]
    · simp only [Bool.not_true, Bool.false_eq_true, if_false, Bool.true_and]
      exact h.out fs d w (by omega) h2 (fun f hf => hn f (List.mem_cons_of_mem _ hf))⟩
instance eqFs_one [ha : Agg P t false] [hv : NthV vs o v] [hu : NthV us o u] [g : EqT P t v u n a] [h : EqFs P l vs us m b] : EqFs P ((t, o) :: l) vs us (n + m) (a && b) :=
  eqFs_step (v := v) (u := u) (fun w => by
    have h1 : vs.toArray[o]? = some v := by rw [List.getElem?_toArray]; exact hv.out
    simp only [part, Sem.run_bind, ha.out, Result.andThen_ok, Bool.false_eq_true, if_false, h1, Sem.run_pure]) (fun w => by
    have h1 : us.toArray[o]? = some u := by rw [List.getElem?_toArray]; exact hu.out
    simp only [part, Sem.run_bind, ha.out, Result.andThen_ok, Bool.false_eq_true, if_false, h1, Sem.run_pure])
theorem extract_sub {vs ws : List Value} {k n : Nat} (h : SubV vs k n ws) : vs.toArray.extract k (k + n) = ws.toArray := by
  apply Array.ext'
  simp [← h.out.2, List.drop_take]
instance eqFs_agg [ha : Agg P t true] [hz : Siz P t z] [hv : SubV vs o z ws] [hu : SubV us o z xs] [g : EqT P t (.agg ws.toArray) (.agg xs.toArray) n a] [h : EqFs P l vs us m b] : EqFs P ((t, o) :: l) vs us (n + m) (a && b) :=
  eqFs_step (v := .agg ws.toArray) (u := .agg xs.toArray) (fun w => by
    simp only [part, Sem.run_bind, ha.out, Result.andThen_ok, if_true, hz.out, Sem.run_pure, extract_sub hv]) (fun w => by
    simp only [part, Sem.run_bind, ha.out, Result.andThen_ok, if_true, hz.out, Sem.run_pure, extract_sub hu])
instance eqT_struct [h : StrT P t l] [g : EqFs P l vs us n b] : EqT P t (.agg vs.toArray) (.agg us.toArray) (n + 1) b := ⟨fun d w hd => by
  obtain ⟨fs, h1, h2, h3, h4, h5⟩ := h.out
  obtain ⟨d, rfl⟩ : ∃ d', d = d' + 1 := ⟨d - 1, by omega⟩
  have h6 : P.fieldsOf t = fs := by unfold Program.fieldsOf; rw [h1]
  rw [run_equalIn_struct w d t _ _ (by rw [h6]; exact h1) h2, h6]
  exact g.out _ d w (by omega) h4 h5⟩
end
section
variable {P : Program} {e : Env} {L : List Hp} {F : Fr} {d : Option Nat} {t u : TypeId} {p : String} {af : Array Edge} {g : Option (Nat × Bool)} {x y : Operand} {v1 : TypeId} {l : List (TypeId × Nat)} {vs us : List Value} {n : Nat} {b : Bool}
theorem guard_struct {op : BinOp} {w : World} [h : StrT P t l] : (eqGuard op t x y (.agg vs.toArray) (.agg us.toArray)).run P w = .ok () w := by
  obtain ⟨fs, h1, h2, h3, h4, h5⟩ := h.out
  exact run_eqGuard_agg w op t x y _ _ h3
instance sv_eql_struct [hx : EvO e x (.agg vs.toArray)] [hy : EvO e y (.agg us.toArray)] [hs : StrT P t l] [h : EqT P t (.agg vs.toArray) (.agg us.toArray) n b] [hn : EqB (Nat.ble n 10000) true] : StepV P e L F ⟨d, .binOp .eql t x y u, v1, p, af, g⟩ (.bool b) := ⟨fun hf _ => run_binop hf guard_struct (bin_eql (h.out _ _ (Nat.le_of_ble_eq_true hn.out)) rfl)⟩
instance sv_neq_struct [hx : EvO e x (.agg vs.toArray)] [hy : EvO e y (.agg us.toArray)] [hs : StrT P t l] [h : EqT P t (.agg vs.toArray) (.agg us.toArray) n b] [hn : EqB (Nat.ble n 10000) true] : StepV P e L F ⟨d, .binOp .neq t x y u, v1, p, af, g⟩ (.bool (!b)) := ⟨fun hf _ => run_binop hf guard_struct (bin_neq (h.out _ _ (Nat.le_of_ble_eq_true hn.out)) rfl)⟩
end
/-! ### The end of a slice -/
instance rdL_asub {α : Type} {L : List Hp} {F : Fr} {A : Option Addr} {E : Enc α} {xs : List α} {c lo sz : Nat} [r : RdL L F A E xs] [hz : EncSz E sz] [hc : Ft (xs.length ≤ c)] : RdL L F (asub A c lo sz) E (xs.drop lo) := ⟨fun {h} hl hd => by
  have r1 := r.out hl hd
  have hz1 := hz.out
  by_cases hcl : c - lo = 0
  · have : xs.drop lo = [] := List.drop_of_length_le (by have := hc.out; omega)
    rw [this]
    exact ⟨fun hh => absurd rfl hh, fun i x j v hx => by simp at hx⟩
  · unfold asub
    rw [if_neg hcl]
    refine ⟨fun hne => ?_, fun i x j v hx hv => ?_⟩
    · have : xs ≠ [] := fun hh => hne (by rw [hh]; simp)
      rw [r1.fst this]
      simp [add_off, ablk, aoff]
    · rw [List.getElem?_drop] at hx
      have : xs ≠ [] := fun hh => by rw [hh] at hx; simp at hx
      obtain ⟨fr, hfr⟩ := r1.get (lo + i) x j v hx hv
      refine ⟨fr, ?_⟩
      rw [r1.fst this]
      simp only [Option.map_some, add_off, ablk, aoff]
      rw [r1.fst this] at hfr
      simp only [ablk, aoff] at hfr
      rw [← hfr]
      congr 1
      rw [hz1, Nat.add_mul]
      omega⟩
theorem RdL.front {α : Type} {L : List Hp} {F : Fr} {A : Option Addr} {E : Enc α} {xs : List α} (r : RdL L F A E xs) (n : Nat) : RdL L F A E (xs.take n) := ⟨fun hl hd => (r.out hl hd).take n⟩
/-- A slice of places, if not of what stands there. -/
class SomeA (A : Option Addr) : Prop where out : A = some ⟨ablk A, aoff A, none⟩
section
variable {α : Type} {P : Program} {e : Env} {L : List Hp} {F : Fr} {d : Option Nat} {t et : TypeId} {p : String} {af : Array Edge} {g : Option (Nat × Bool)} {x y : Operand} {n c k sz : Nat} {v1 : TypeId} {A : Option Addr} {ki : IntKind} {i : Int}
instance (priority := low) sv_index_some [hx : EvO e x (.slice A n c)] [hy : EvO e y (.int ki i)] [hi : NatIdx i k] [ht : Und P t (.slice et)] [hs : Siz P et sz] [hA : SomeA A] [hn : Ft (k < n)] :
    StepV P e L F ⟨d, .indexAddr t x y, v1, p, af, g⟩ (.pointer (some ⟨ablk A, aoff A + k * sz, none⟩)) := ⟨fun hf hsat => by
  have h1 : ((0 : Int) ≤ (k : Int) ∧ (k : Int) < (n : Int)) := ⟨by omega, by have := hn.out; omega⟩
  simp only [execOp, hx.out hf, hy.out hf, Instr.indexAt, asIntOf, hi.out, Sem.run_bind, Sem.run_pure, Result.andThen_ok, run_und]
  rw [hA.out]
  simp only [h1, and_self, if_true, Sem.run_bind, Sem.run_pure, Result.andThen_ok, hs.out, add_off, Int.toNat_natCast, ablk, aoff]⟩
theorem own.someA {E : Enc α} {xs : List α} {h : Heap} (ho : own E A c xs h) (hne : xs ≠ []) : SomeA A := by
  rcases own_iff.1 ho with ⟨rfl, rfl, rfl, rfl⟩ | ⟨b, o, sp, rfl, hc, _⟩
  · exact absurd rfl hne
  · exact ⟨rfl⟩
end
/-! ### Entries of maps -/
/-- A map with an entry that waits for its value. -/
def mapE {κ β : Type} [DecidableEq κ] (ke : κ → Value) (ve : β → Value) (r : Nat) (m : List (κ × β)) (k : κ) (s : Int) : Hp := fun h => ∃ es clk i, h = single r (.map es clk) ∧
  es.findIdx? (fun e => (e.born : Int) == s) = some i ∧ ∀ b, MapOf ke ve (mput m k b) (es.modify i fun e => { e with val := ve b }) clk
class MapInE {κ β : outParam Type} [outParam (DecidableEq κ)] (L : List Hp) (r : Nat) (ke : outParam (κ → Value)) (ve : outParam (β → Value)) (m : outParam (List (κ × β))) (k : outParam κ) (s : outParam Int) (L' : outParam (List Hp)) : Prop where out : Pick (mapE ke ve r m k s) L L'
instance (priority := high) mapInE_here {κ β : Type} [DecidableEq κ] {L : List Hp} {r : Nat} {ke : κ → Value} {ve : β → Value} {m : List (κ × β)} {k : κ} {s : Int} : MapInE (mapE ke ve r m k s :: L) r ke ve m k s L := ⟨.here⟩
instance (priority := low) mapInE_there {κ β : Type} [DecidableEq κ] {q : Hp} {L L' : List Hp} {r : Nat} {ke : κ → Value} {ve : β → Value} {m : List (κ × β)} {k : κ} {s : Int} [h : MapInE L r ke ve m k s L'] : MapInE (q :: L) r ke ve m k s (q :: L') := ⟨.there h.out⟩
section
variable {κ β : Type} [DecidableEq κ] {P : Program} {N : Nat} {e : Env} {L L' : List Hp} {F : Fr} {Q : Exit → Act → World → Prop} {ops : Array Oper} {d : Nat} {dst : Option Nat} {g : Option (Nat × Bool)} {t t' kt vt : TypeId} {p : String} {af : Array Edge} {rest : List Oper} {x y u : Operand} {v z : Value} {r : Nat} {v1 : TypeId}
  {ke : κ → Value} {ve : β → Value} {m : List (κ × β)} {k : κ} {b : β} {w : World} {s : Int}
class MapAt {κ β : outParam Type} (L : List Hp) (r : Nat) (ke : outParam (κ → Value)) (ve : outParam (β → Value)) (m : outParam (List (κ × β))) (L' : outParam (List Hp)) : Prop where out : Pick (mapR ke ve r m) L L'
omit [DecidableEq κ] in
instance (priority := high) mapAt_here : MapAt (mapR ke ve r m :: L) r ke ve m L := ⟨.here⟩
omit [DecidableEq κ] in
instance (priority := low) mapAt_there {q : Hp} [h : MapAt L r ke ve m L'] : MapAt (q :: L) r ke ve m (q :: L') := ⟨.there h.out⟩
theorem Sat.single_lt {c : Hp} {o : Obj} (hs : Sat (c :: L) F w) (hc : ∀ h, c h → h = single r o) : wat w r 0 = some (.obj o) ∧ F.W.heap.size ≤ r := by
  obtain ⟨h, ⟨h1, h2, hd, rfl, hc1, hl⟩, hdf, s1, s2, s3, s4⟩ := hs
  have := hc h1 hc1
  subst this
  have h0 : Heap.un (single r o) h2 r 0 = some (.obj o) := Heap.un_left (by unfold single; rw [if_pos ⟨rfl, rfl⟩])
  exact ⟨s1 _ _ _ h0, s3 _ _ _ h0⟩
/-- An object that is put in place of another. -/
theorem Sat.single_set {c c' : Hp} {o o' : Obj} (hs : Sat (c :: L) F w) (hc : ∀ h, c h → h = single r o) (hc' : c' (single r o')) (ho' : ∀ a b d, o' ≠ .cells a b d) : Sat (c' :: L) F { w with heap := w.heap.setIfInBounds r o' } := by
  obtain ⟨h0, hr0⟩ := hs.single_lt hc
  have hr := wat_lt h0
  have hob := wat_obj h0
  obtain ⟨h, ⟨h1, h2, hd, rfl, hc1, hl⟩, hdf, s1, s2, s3, s4⟩ := hs
  have := hc h1 hc1
  subst this
  obtain ⟨d1, d2⟩ := Heap.dj_un_left.1 hdf
  have hd1' : ∀ k : Heap, Heap.dj (single r o) k → Heap.dj (single r o') k := fun k hk b p => by
    rcases hk b p with h5 | h5
    · left
      unfold single at h5 ⊢
      split at h5
      · cases h5
      · rename_i hh; rw [if_neg hh]
    · exact .inr h5
  have hne : ∀ k : Heap, Heap.sub k (wat w) → Heap.dj (single r o) k → Heap.sub k (wat ({ w with heap := w.heap.setIfInBounds r o' } : World)) := fun k hks hdk b p c hcc => by
    by_cases hb : b = r
    · subst hb
      have h5 := hks b p c hcc
      unfold wat at h5
      rw [hob.1] at h5
      by_cases hp : p = 0
      · subst hp
        rcases hdk b 0 with h6 | h6
        · unfold single at h6; rw [if_pos ⟨rfl, rfl⟩] at h6; cases h6
        · rw [h6] at hcc; cases hcc
      · exfalso
        cases o with
        | cells a b d => exact hob.2 a b d rfl
        | _ => simp only [if_neg hp] at h5; cases h5
    · rw [wat_block (w := w) (by simp only [Array.getElem?_setIfInBounds]; rw [if_neg (fun hh => hb hh.symm)])]
      exact hks b p c hcc
  refine ⟨Heap.un (single r o') h2, ⟨_, h2, hd1' h2 hd, rfl, hc', hl⟩, Heap.dj_un_left.2 ⟨hd1' _ d1, d2⟩, Heap.sub_un (fun b p c hcc => ?_) (hne h2 (Heap.sub_right hd s1) hd), hne F.h s2 d1, fun b p c hc => ?_, ?_⟩
  · unfold single at hcc
    split at hcc
    · rename_i hh
      obtain ⟨rfl, rfl⟩ := hh
      rw [← Option.some.inj hcc]
      unfold wat
      simp only [Array.getElem?_setIfInBounds, if_true, hr]
    · cases hcc
  · rcases Heap.un_some.1 hc with h5 | ⟨_, h5⟩
    · unfold single at h5
      split at h5
      · rename_i hh
        obtain ⟨rfl, rfl⟩ := hh
        exact hr0
      · cases h5
    · exact s3 _ _ _ (Heap.un_right hd h5)
  · refine s4.trans ⟨rfl, rfl, rfl, by simp, fun k hk => ?_⟩
    show (w.heap.setIfInBounds r _)[k]? = w.heap[k]?
    rw [Array.getElem?_setIfInBounds, if_neg (by omega)]
omit [DecidableEq κ] in
theorem mapR_iff {h : Heap} : mapR ke ve r m h ↔ ∃ es clk, h = single r (.map es clk) ∧ MapOf ke ve m es clk := by unfold mapR; exact Iff.rfl
theorem findIdx_arr (es : Array MapEntry) (q : MapEntry → Bool) : es.findIdx? q = es.toList.findIdx? q := by
  cases es
  simp
theorem findIdx_nodup : ∀ (l : List MapEntry) (j : Nat) (e0 : MapEntry), (l.map (·.born)).Nodup → l[j]? = some e0 → l.findIdx? (fun e => (e.born : Int) == (e0.born : Int)) = some j
  | [], j, e0, _, h => by simp at h
  | q :: l, 0, e0, hn, h => by
    simp only [List.getElem?_cons_zero, Option.some.injEq] at h
    subst h
    simp [List.findIdx?_cons]
  | q :: l, j + 1, e0, hn, h => by
    simp only [List.getElem?_cons_succ] at h
    simp only [List.map_cons, List.nodup_cons] at hn
    have hne : ((q.born : Int) == (e0.born : Int)) = false := by
      have : q.born ≠ e0.born := fun hh => hn.1 (hh ▸ List.mem_map.2 ⟨e0, List.mem_of_getElem? h, rfl⟩)
      simp; omega
    rw [List.findIdx?_cons, hne]
    simp [findIdx_nodup l j e0 hn.2 h]
theorem j_mapEntry [hx : EvO e x (.map (some r))] [i : MapAt L r ke ve m L'] [hy : EvO e y (ke k)] [ht : Und P t (.map kt vt)] [hk : KeyK P kt ke] [hz : Zro P vt z] (hd : Nat.blt d N = true) (h : ∀ v0 s, J N ((d, .tuple #[v0, .int .i64 s]) :: e) (mapE ke ve r m k s :: L') F (wpList P ops Q rest)) :
    J N e L F (wpList P ops Q (⟨some d, .mapEntry t x y, v1, p, af, none⟩ :: rest)) :=
  j_run rfl fun a w hf hs => by
    have hs1 : Sat (mapR ke ve r m :: L') F w := hs.le (LE.pick i.out (LE.refl _))
    have hs2 := hs1
    obtain ⟨hh, ⟨h1, h2, hd1, hhe, hm0, hl⟩, _⟩ := hs2
    obtain ⟨es, clk, hes, hm⟩ := mapR_iff.1 hm0
    have hs3 : Sat ((fun q => q = single r (.map es clk)) :: L') F w := by
      obtain ⟨g, ⟨g1, g2, gd, rfl, gm, gl⟩, grest⟩ := hs1
      obtain ⟨es', clk', hg1, hm'⟩ := mapR_iff.1 gm
      have e1 : Heap.un g1 g2 r 0 = some (.obj (.map es' clk')) := Heap.un_left (by rw [hg1]; unfold single; rw [if_pos ⟨rfl, rfl⟩])
      have e2 := grest.2.1 _ _ _ e1
      have e3 : wat w r 0 = some (.obj (.map es clk)) := by
        rename_i hrest
        exact hrest.2.1 _ _ _ (by rw [hhe]; exact Heap.un_left (by rw [hes]; unfold single; rw [if_pos ⟨rfl, rfl⟩]))
      rw [e2] at e3
      injection e3 with e4
      injection e4 with e5
      injection e5 with e6 e7
      subst e6 e7
      exact ⟨_, ⟨g1, g2, gd, rfl, hg1, gl⟩, grest⟩
    have hgo : w.heap[r]? = some (.map es clk) := (wat_obj (hs3.single_lt fun _ h => h).1).1
    rcases hm.find (P := P) (kt := kt) k w with ⟨h1, h5⟩ | ⟨j, x0, e0, h1, h2, h3, h4, h5⟩
    · refine ⟨_, { w with heap := w.heap.setIfInBounds r (.map (es.push { key := ke k, val := z, born := clk }) (clk + 1)) }, ?_, h z clk _ _ (hf.put hd _) (hs3.single_set (fun _ h => h) ⟨_, _, es.size, rfl, ?_, fun b => ?_⟩ (fun _ _ _ hh => by cases hh))⟩
      · simp only [execOp, hx.out hf, hy.out hf, Instr.mapEntry, Sem.run_bind, run_und, Result.andThen_ok, run_getObj hgo, hk.check, h5, hz.out, run_setObj hgo, Sem.run_pure, goInt]
      · rw [findIdx_arr, Array.toList_push]
        have := findIdx_nodup (es.toList ++ [{ key := ke k, val := z, born := clk }]) es.size { key := ke k, val := z, born := clk } (by
          rw [List.map_append, List.nodup_append]
          refine ⟨hm.born, by simp, fun a ha c hc => ?_⟩
          simp at hc
          subst hc
          obtain ⟨e', he', rfl⟩ := List.mem_map.1 ha
          have := hm.clk e' (Array.mem_toList_iff.1 he')
          omega) (by simp)
        exact this
      · have hl : ((es.push { key := ke k, val := z, born := clk }).modify es.size fun e => { e with val := ve b }) = es.push { key := ke k, val := ve b, born := clk } := by
          apply Array.ext'
          apply List.ext_getElem?
          intro i
          rw [Array.getElem?_toList, Array.getElem?_toList, Array.getElem?_modify, Array.getElem?_push, Array.getElem?_push]
          by_cases hi : i = es.size
          · subst hi; simp
          · rw [if_neg (fun hh => hi hh.symm), if_neg hi, if_neg hi]
        rw [hl, mput_new h1]
        refine ⟨by simp [hm.kv], by have := mput_nodup (v := b) (k := k) hm.nodup; rwa [mput_new h1] at this, ?_, fun e he => ?_⟩
        · simp only [Array.toList_push, List.map_append, List.map_cons, List.map_nil]
          rw [List.nodup_append]
          refine ⟨hm.born, by simp, fun a ha c hc => ?_⟩
          simp at hc
          subst hc
          obtain ⟨e', he', rfl⟩ := List.mem_map.1 ha
          have := hm.clk e' (Array.mem_toList_iff.1 he')
          omega
        · rcases Array.mem_push.1 he with h | rfl
          · have := hm.clk e h; omega
          · simp
    · have hj : j < es.size := by
        have := (List.getElem?_eq_some_iff.1 h3).1
        simpa using this
      have hje : es[j]? = some e0 := by rw [← Array.getElem?_toList]; exact h3
      have hkey : ((es[j]?).map (·.key)).getD (ke k) = ke k := by rw [hje]; exact h4
      have hborn : ((es[j]?).map (·.born)).getD 0 = e0.born := by rw [hje]; rfl
      have hl1 : (es.modify j fun e => { e with key := ke k }) = es := by
        apply Array.ext'
        apply List.ext_getElem?
        intro i
        rw [Array.getElem?_toList, Array.getElem?_toList, Array.getElem?_modify]
        by_cases hi : j = i
        · subst hi
          rw [if_pos rfl, hje, ← h4]
          rfl
        · rw [if_neg hi]
      refine ⟨_, { w with heap := w.heap.setIfInBounds r (.map es clk) }, ?_, h (ve x0) e0.born _ _ (hf.put hd _) (hs3.single_set (fun _ h => h) ⟨_, _, j, rfl, ?_, fun b => ?_⟩ (fun _ _ _ hh => by cases hh))⟩
      · simp only [execOp, hx.out hf, hy.out hf, Instr.mapEntry, Sem.run_bind, run_und, Result.andThen_ok, run_getObj hgo, hk.check, h5, h4, hk.stays, run_setObj hgo, hl1, hje, Option.map_some, Option.getD_some, Sem.run_pure, goInt]
      · rw [findIdx_arr]
        exact findIdx_nodup es.toList j e0 hm.born h3
      · obtain ⟨es', clk', hr, hm'⟩ := hm.put (P := P) (kt := kt) (vt := vt) (t := t) (r := r) k b w hgo ht.out
        simp only [Instr.mapUpdate, Sem.run_bind, run_und, Result.andThen_ok, run_getObj hgo, hk.check, h5, hkey, hk.stays, run_setObj hgo] at hr
        injection hr with _ hw
        have hh := congrArg (fun q : World => q.heap[r]?) hw
        simp only [Array.getElem?_setIfInBounds] at hh
        have hr2 : r < w.heap.size := by
          rcases Nat.lt_or_ge r w.heap.size with h | h
          · exact h
          · rw [Array.getElem?_eq_none h] at hgo; cases hgo
        simp only [hr2, if_true, Option.some.injEq, Obj.map.injEq] at hh
        obtain ⟨e1, e2⟩ := hh
        rw [← e1, ← e2] at hm'
        have e3 : (es.modify j fun e => { e with val := ve b }) = (es.modify j fun e => { e with key := ke k, val := ve b }) := by
          apply Array.ext'
          apply List.ext_getElem?
          intro i
          rw [Array.getElem?_toList, Array.getElem?_toList, Array.getElem?_modify, Array.getElem?_modify]
          by_cases hi : j = i
          · subst hi
            rw [if_pos rfl, if_pos rfl, hje, ← h4]
            rfl
          · rw [if_neg hi, if_neg hi]
        rw [e3]
        exact hm'
theorem j_entryStore [hx : EvO e x (.map (some r))] [i : MapInE L r ke ve m k s L'] [hy : EvO e y (.int .i64 s)] [hz : EvO e u v] (b : β) (hb : ve b = v) (h : J N e (mapR ke ve r (mput m k b) :: L') F (wpList P ops Q rest)) :
    J N e L F (wpList P ops Q (⟨none, .entryStore t x y u, v1, p, af, none⟩ :: rest)) :=
  j_runU fun a w hf hs => by
    have hs1 : Sat (mapE ke ve r m k s :: L') F w := hs.le (LE.pick i.out (LE.refl _))
    obtain ⟨g, ⟨g1, g2, gd, rfl, ⟨es, clk, j, rfl, hj, hm⟩, gl⟩, grest⟩ := hs1
    have hs3 : Sat ((fun q => q = single r (.map es clk)) :: L') F w := ⟨_, ⟨_, g2, gd, rfl, rfl, gl⟩, grest⟩
    have hgo : w.heap[r]? = some (.map es clk) := (wat_obj (hs3.single_lt fun _ h => h).1).1
    refine ⟨{ w with heap := w.heap.setIfInBounds r (.map (es.modify j fun e => { e with val := ve b }) clk) }, ?_, h _ _ hf (hs3.single_set (fun _ h => h) (mapR_iff.2 ⟨_, _, rfl, hm b⟩) (fun _ _ _ hh => by cases hh))⟩
    rw [← hb] at hz
    simp only [execOp, hx.out hf, hy.out hf, hz.out hf, Instr.entryStore, asInt, asIntOf, Sem.run_bind, run_getObj hgo, Result.andThen_ok, Sem.run_pure, hj, run_setObj hgo]
omit [DecidableEq κ] in
instance (priority := low) sv_lookup2_int [DecidableEq κ] {K : List (κ × Int) → List Hp} {m : List (κ × Int)} {ki : IntKind} {o : Option Int} [hx : EvO e x (.map (some r))] [i : MapIn L r ke (Value.int ki) m K] [hy : EvO e y (ke k)] [ht : Und P t (.map kt vt)] [hk : KeyK P kt ke] [hz : Zro P vt (.int ki 0)] [hg : MG m k o] : StepV P e L F ⟨dst, .lookup t x y true, v1, p, af, g⟩ (.tuple #[.int ki (o.getD 0), .bool o.isSome]) := by
  cases o with
  | none => exact sv_lookup2_none
  | some b => exact sv_lookup2_some
/-! ### Maps cloned -/
theorem eqIn_map_nil {n : Nat} [ht : Und P t (.map kt vt)] {q : Option Nat} : (Op.equalIn (n + 1) t (.map q) (.map none)).run P w = .ok q.isNone w := by
  cases q <;> simp [Op.equalIn, run_und]
theorem guard_map {op : BinOp} {a b : Option Nat} : (eqGuard op t x y (.map a) (.map b)).run P w = .ok () w := by
  unfold eqGuard
  cases op <;> simp
end
section
variable {κ β : Type} {P : Program} {N : Nat} {e : Env} {L L' : List Hp} {F : Fr} {Q : Exit → Act → World → Prop} {ops : Array Oper} {d : Nat} {dst : Option Nat} {g : Option (Nat × Bool)} {t t' u kt vt : TypeId} {p : String} {af : Array Edge} {rest : List Oper} {x y : Operand} {v : Value} {r f : Nat} {v1 : TypeId}
  {ke : κ → Value} {ve : β → Value} {m : List (κ × β)} {D : TypeDesc}
instance sv_eql_map_nil {q : Option Nat} [hx : EvO e x (.map q)] [hy : EvO e y (.map none)] [ht : Und P t (.map kt vt)] : StepV P e L F ⟨dst, .binOp .eql t x y u, v1, p, af, g⟩ (.bool q.isNone) := ⟨fun hf _ => run_binop hf guard_map (bin_eql eqIn_map_nil rfl)⟩
instance sv_neq_map_nil {q : Option Nat} [hx : EvO e x (.map q)] [hy : EvO e y (.map none)] [ht : Und P t (.map kt vt)] : StepV P e L F ⟨dst, .binOp .neq t x y u, v1, p, af, g⟩ (.bool (!q.isNone)) := ⟨fun hf _ => run_binop hf guard_map (bin_neq eqIn_map_nil rfl)⟩
class NotIface (D : TypeDesc) : Prop where out : ∀ a, D ≠ .interface a
instance notIface_map {a b : TypeId} : NotIface (.map a b) := ⟨fun _ h => by cases h⟩
instance sv_makeIface [hx : EvO e x v] [ht : Und P t D] [hn : NotIface D] : StepV P e L F ⟨dst, .makeInterface t x, v1, p, af, g⟩ (.iface t v) := ⟨fun hf _ => by
  have : (Instr.makeInterface t v).run P = fun w => .ok (.iface t v) w := by
    funext w
    simp only [Instr.makeInterface, Sem.run_bind, run_und, Result.andThen_ok]
    cases D <;> first | rfl | exact absurd rfl (hn.out _)
  simp only [execOp, hx.out hf, Sem.run_bind, this, Result.andThen_ok, Sem.run_pure]⟩
instance sv_typeAssert [hx : EvO e x (.iface t v)] [ht : Und P t D] [hn : NotIface D] : StepV P e L F ⟨dst, .typeAssert x t' t false, v1, p, af, g⟩ v := ⟨fun hf _ => by
  have : (Instr.typeAssert (.iface t v) t' t false).run P = fun w => .ok v w := by
    funext w
    simp only [Instr.typeAssert, Sem.run_bind, run_und, Result.andThen_ok]
    cases D <;> first | (simp; done) | exact absurd rfl (hn.out _)
  simp only [execOp, hx.out hf, Sem.run_bind, this, Result.andThen_ok, Sem.run_pure]⟩
/-- The function that clones a map. -/
class CloneF (P : Program) (f : FuncId) : Prop where out : ∀ args w, (callFunc f args).run P w = ((Extern.MapsClone.clone args).run P w).andThen fun v w' => .ok (.value v) w'
theorem cloneF_of {fn : Func} (hf : P.funcs[f]? = some fn) (hname : (fn.name == "runtime.NumGoroutine") = false) (hb : fn.body.isNone = true) (hn : Extern.findNext fn = none) (he : Extern.find fn = some Extern.MapsClone.clone) : CloneF P f := ⟨fun args w => run_callFunc_extern hf hname hb hn he args w⟩
theorem run_clone {w : World} {es : Array MapEntry} {clk : Nat} (hgo : w.heap[r]? = some (.map es clk)) : (Extern.MapsClone.clone #[.iface t (.map (some r))]).run P w = .ok (.iface t (.map (some w.heap.size))) (w.alloc (.map es clk)) := by
  have e1 : Extern.MapsClone.clone #[.iface t (.map (some r))] = (getObj r >>= fun o => match o with
      | .map entries clock => (newObj (.map entries clock) >>= fun n => pure (.iface t (.map (some n))))
      | _ => stuck "maps.clone: a map expected") := rfl
  rw [e1]
  simp only [Sem.run_bind, run_getObj hgo, Result.andThen_ok, run_newObj, Sem.run_pure]
  rfl
theorem j_clone [hc : CloneF P f] [hx : EvO e x (.iface t (.map (some r)))] [i : MapAt L r ke ve m L'] {ats : Array TypeId} (hd : Nat.blt d N = true) (h : ∀ r', J N ((d, .iface t (.map (some r'))) :: e) (mapR ke ve r' m :: mapR ke ve r m :: L') F (wpList P ops Q rest)) :
    J N e L F (wpList P ops Q (⟨some d, .call { callee := .value (.func f), args := #[x], argTypes := ats }, v1, p, af, none⟩ :: rest)) :=
  j_run rfl fun a w hf hs => by
    have hs1 : Sat (mapR ke ve r m :: L') F w := hs.le (LE.pick i.out (LE.refl _))
    have hs2 := hs1
    obtain ⟨g, ⟨g1, g2, gd, hg, gm, gl⟩, grest⟩ := hs2
    obtain ⟨es, clk, hg1, hm⟩ := mapR_iff.1 gm
    have hw : wat w r 0 = some (.obj (.map es clk)) := grest.2.1 _ _ _ (by rw [hg]; exact Heap.un_left (by rw [hg1]; unfold single; rw [if_pos ⟨rfl, rfl⟩]))
    have hgo := (wat_obj hw).1
    refine ⟨_, w.alloc (.map es clk), ?_, h w.heap.size _ _ (hf.put hd _) (hs1.alloc _ (mapR_iff.2 ⟨es, clk, ?_, hm⟩))⟩
    · have h1 : #[x].map a.eval = #[.iface t (.map (some r))] := by simp [hx.out hf]
      simp only [execOp, resolve, h1, Act.eval, Deferred.ofValue, invoke, Sem.run_bind, Sem.run_pure, Result.andThen_ok, Array.empty_append, Array.append_empty, hc.out, run_clone hgo]
    · refine Heap.ext' fun b o => ?_
      unfold single
      by_cases hb : b = w.heap.size
      · subst hb
        rw [if_pos rfl, wat_alloc_obj (fun _ _ _ h => by cases h)]
        by_cases ho : o = 0 <;> simp [ho]
      · rw [if_neg hb, if_neg (fun hh => hb hh.1)]
end
end Go.Proofs.YtjmicpkinflofaaDoor.S
