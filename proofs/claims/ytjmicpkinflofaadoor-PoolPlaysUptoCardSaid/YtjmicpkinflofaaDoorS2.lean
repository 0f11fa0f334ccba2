/- The walk: what slots hold, what an operation yields; control. Generic over programs. -/
import Derived.Test.YtjmicpkinflofaaDoorS1
import Derived.Laws.Strings
namespace Go.Proofs.YtjmicpkinflofaaDoor.S
open Go.RowKit
set_option linter.unusedVariables false
set_option linter.unusedSimpArgs false

/-- A fact that instances may use. -/
class Ft (p : Prop) : Prop where out : p
class EqB (b : Bool) (c : outParam Bool) : Prop where out : b = c
instance eqB_refl {b : Bool} : EqB b b := ⟨rfl⟩
/-- A closed Bool that comes to false. -/
class IsF (b : Bool) : Prop where out : b = false
instance isF_of {b : Bool} [h : EqB b false] : IsF b := ⟨h.out⟩
abbrev Env := List (Nat × Value)
def Env.get : Env → Nat → Option Value
  | [], _ => none
  | (s, v) :: e, t => if Nat.beq s t = true then some v else Env.get e t
structure Fits (N : Nat) (e : Env) (a : Act) : Prop where
  defers : a.defers = []
  size : N ≤ a.tmps.size
  get : ∀ t v, e.get t = some v → a.tmps[t]? = some v
theorem Fits.put {N : Nat} {e : Env} {a : Act} (h : Fits N e a) {d : Nat} (hd : Nat.blt d N = true) (v : Value) : Fits N ((d, v) :: e) (a.put (some d) v) := by
  have hd' : d < N := by simpa [Nat.blt_eq] using hd
  refine ⟨h.defers, by simpa [Act.put] using h.size, fun t u hu => ?_⟩
  unfold Env.get at hu
  by_cases ht : Nat.beq d t = true
  · rw [if_pos ht] at hu
    have := Nat.eq_of_beq_eq_true ht
    subst this
    cases hu
    simp only [Act.put]
    rw [Array.getElem?_setIfInBounds_self_of_lt (by have := h.size; omega)]
  · rw [if_neg ht] at hu
    have hne : d ≠ t := fun hh => ht (by rw [hh]; exact Nat.beq_refl t)
    simp only [Act.put]
    rw [Array.getElem?_setIfInBounds_ne hne]
    exact h.get t u hu

/-! ### Operands -/
class EvO (e : Env) (x : Operand) (v : outParam Value) : Prop where
  out : ∀ {N : Nat} {a : Act}, Fits N e a → a.eval x = v
instance evO_const {e : Env} {v : Value} : EvO e (.const v) v := ⟨fun _ => rfl⟩
instance evO_func {e : Env} {f : Nat} : EvO e (.func f) (.func (.func f) #[] #[]) := ⟨fun _ => rfl⟩
instance evO_global {e : Env} {g : Nat} : EvO e (.global g) (.pointer (some ⟨g, 0, none⟩)) := ⟨fun _ => rfl⟩
class GetE (e : Env) (t : Nat) (v : outParam Value) : Prop where
  out : e.get t = some v
instance (priority := high) getE_here {e : Env} {t : Nat} {v : Value} : GetE ((t, v) :: e) t v := ⟨by simp [Env.get, Nat.beq_refl]⟩
instance (priority := low) getE_there {e : Env} {t s : Nat} {u v : Value} [h : IsF (Nat.beq s t)] [g : GetE e t v] : GetE ((s, u) :: e) t v :=
  ⟨by unfold Env.get; rw [h.out]; exact g.out⟩
instance evO_tmp {e : Env} {t : Nat} {v : Value} [g : GetE e t v] : EvO e (.tmp t) v := ⟨fun {N a} h => by
  show a.tmps.getD t undef = v
  rw [Array.getD_eq_getD_getElem?, h.get t v g.out]; rfl⟩
/-- Some slots are kept. -/
class Keep (ks : List Nat) (e : Env) (e' : outParam Env) : Prop where
  out : ∀ t v, Env.get e' t = some v → e.get t = some v
instance keep_nil {e : Env} : Keep [] e [] := ⟨fun t v h => by cases h⟩
instance keep_cons {e e' : Env} {k : Nat} {ks : List Nat} {v : Value} [g : GetE e k v] [h : Keep ks e e'] : Keep (k :: ks) e ((k, v) :: e') := ⟨fun t u hu => by
  unfold Env.get at hu
  by_cases ht : Nat.beq k t = true
  · rw [if_pos ht] at hu
    have := Nat.eq_of_beq_eq_true ht
    subst this
    cases hu
    exact g.out
  · rw [if_neg ht] at hu
    exact h.out t u hu⟩

/-! ### The judgement -/
def J (N : Nat) (e : Env) (L : List Hp) (F : Fr) (R : Act → World → Prop) : Prop := ∀ (a : Act) (w : World), Fits N e a → Sat L F w → R a w
section
variable {P : Program} {N : Nat} {e e' : Env} {L L' : List Hp} {F : Fr} {R K : Act → World → Prop} {Q : Exit → Act → World → Prop}
theorem j_mono (h : ∀ a w, R a w → K a w) (hj : J N e L F R) : J N e L F K := fun a w hf hs => h a w (hj a w hf hs)
theorem j_keep (ks : List Nat) [k : Keep ks e e'] (h : J N e' L F R) : J N e L F R := fun a w hf hs => h a w ⟨hf.defers, hf.size, fun t v hv => hf.get t v (k.out t v hv)⟩ hs
theorem j_le (hle : LE L L') (h : J N e L' F R) : J N e L F R := fun a w hf hs => h a w hf (hs.le hle)
/-! #### Control -/
theorem j_seq {x y : Code} (h : ∀ K : Act → World → Prop, (∀ a w, y.wp P Q a w → K a w) → J N e L F (x.wp P (Exit.then K Q))) : J N e L F ((Code.seq x y).wp P Q) :=
  fun a w hf hs => wp_seq (h _ (fun _ _ h => h) a w hf hs)
theorem j_skip (h : J N e L F (Q .normal)) : J N e L F (Code.skip.wp P Q) := fun a w hf hs => wp_skip (h a w hf hs)
theorem j_label {l : Nat} (h : J N e L F (Q .normal)) : J N e L F ((Code.label l).wp P Q) := fun a w hf hs => wp_label (h a w hf hs)
theorem j_exit {i : Nat} (h : J N e L F (Q (.exit i))) : J N e L F ((Code.exit i).wp P Q) := fun a w hf hs => wp_exit (h a w hf hs)
theorem j_ret (h : J N e L F (Q .ret)) : J N e L F (Code.ret.wp P Q) := fun a w hf hs => wp_ret (h a w hf hs)
theorem j_block {i : Nat} {c : Code} (h : J N e L F (c.wp P (Exit.inBlock i Q))) : J N e L F ((Code.block i c).wp P Q) := fun a w hf hs => wp_block (h a w hf hs)
theorem j_cond {c : Operand} {x y : Code} {t : Bool} [g : EvO e c (.bool t)] (ht : t = true → J N e L F (x.wp P Q)) (hf : t = false → J N e L F (y.wp P Q)) : J N e L F ((Code.cond c x y).wp P Q) :=
  fun a w hfi hs => wp_cond_split (g.out hfi) (fun h => ht h a w hfi hs) (fun h => hf h a w hfi hs)
theorem j_cond_t {c : Operand} {x y : Code} [g : EvO e c (.bool true)] (ht : J N e L F (x.wp P Q)) : J N e L F ((Code.cond c x y).wp P Q) :=
  fun a w hfi hs => wp_cond_true (g.out hfi) (ht a w hfi hs)
theorem j_cond_f {c : Operand} {x y : Code} [g : EvO e c (.bool false)] (ht : J N e L F (y.wp P Q)) : J N e L F ((Code.cond c x y).wp P Q) :=
  fun a w hfi hs => wp_cond_false (g.out hfi) (ht a w hfi hs)
theorem j_then (h : J N e L F K) : J N e L F (Exit.then K Q .normal) := h
theorem j_then_exit {i : Nat} (h : J N e L F (Q (.exit i))) : J N e L F (Exit.then K Q (.exit i)) := h
theorem j_then_ret (h : J N e L F (Q .ret)) : J N e L F (Exit.then K Q .ret) := h
theorem j_in_normal {i : Nat} (h : J N e L F (Q .normal)) : J N e L F (Exit.inBlock i Q .normal) := h
theorem j_in_ret {i : Nat} (h : J N e L F (Q .ret)) : J N e L F (Exit.inBlock i Q .ret) := h
theorem j_in_exit {i : Nat} (h : J N e L F (Q .normal)) : J N e L F (Exit.inBlock i Q (.exit i)) := fun a w hf hs => by
  show if i = i then _ else _
  rw [if_pos rfl]; exact h a w hf hs
theorem j_in_past {i j : Nat} [hn : IsF (Nat.beq j i)] (h : J N e L F (Q (.exit j))) : J N e L F (Exit.inBlock i Q (.exit j)) := fun a w hf hs => by
  show if j = i then _ else _
  rw [if_neg (fun hh => by have := hn.out; rw [hh, Nat.beq_refl] at this; cases this)]; exact h a w hf hs
/-- A loop by what holds at its head ('m': a measure that goes down). -/
def Back (N : Nat) (F : Fr) (I : Nat → Env → List Hp → Prop) (m : Nat) (a : Act) (w : World) : Prop := ∃ m' e L, m' < m ∧ I m' e L ∧ Fits N e a ∧ Sat L F w
theorem j_loop {c : Code} (I : Nat → Env → List Hp → Prop) (m₀ : Nat) (e₀ : Env) (L₀ : List Hp) (h₀ : I m₀ e₀ L₀) (hk : ∀ t v, Env.get e₀ t = some v → e.get t = some v) (hl : LE L L₀)
    (round : ∀ m e L, I m e L → J N e L F (c.wp P (Exit.then (Back N F I m) Q))) : J N e L F ((Code.loop c).wp P Q) := by
  intro a w hf hs
  intro b k cs
  have key : ∀ m a w e L, I m e L → Fits N e a → Sat L F w → ∃ ex a' w', Q ex a' w' ∧ Arrives P (lone (b.at a (.code c :: .inLoop c :: k)) cs w) b k cs ex a' w' := by
    intro m
    induction m using Nat.strongRecOn with
    | _ m ih =>
      intro a w e L hI hf hs
      obtain ⟨ex, a₁, w₁, hq, harr⟩ := round m e L hI a w hf hs b (.inLoop c :: k) cs
      cases ex with
      | normal =>
        obtain ⟨m', e', L', hlt, hI', hf', hs'⟩ := hq
        obtain ⟨e₂, a₂, w₂, hq₂, harr₂⟩ := ih m' hlt a₁ w₁ e' L' hI' hf' hs'
        exact ⟨e₂, a₂, w₂, hq₂, .of_steps (Steps.trans harr (.one step_inLoop)) harr₂⟩
      | exit id => exact ⟨_, a₁, w₁, hq, .pass (x := .inLoop c) rfl (fun _ _ => .inl (by simp)) harr⟩
      | goto l => exact ⟨_, a₁, w₁, hq, .pass (x := .inLoop c) rfl (fun _ _ => .inl (by simp)) harr⟩
      | ret => exact ⟨_, a₁, w₁, hq, .pass (x := .inLoop c) rfl (fun _ _ => .inl (by simp)) harr⟩
      | panic ch => exact ⟨_, a₁, w₁, hq, .pass (x := .inLoop c) rfl (fun _ _ => .inl (by simp)) harr⟩
      | outgrown => exact ⟨_, a₁, w₁, hq, .pass (x := .inLoop c) rfl (fun _ _ => .inl (by simp)) harr⟩
  obtain ⟨ex, a', w', hq, harr⟩ := key m₀ a w e₀ L₀ h₀ ⟨hf.defers, hf.size, fun t v hv => hf.get t v (hk t v hv)⟩ (hs.le hl)
  exact ⟨ex, a', w', hq, .of_steps (.one step_loop) harr⟩
theorem j_back {I : Nat → Env → List Hp → Prop} {m : Nat} (m' : Nat) (e' : Env) (L' : List Hp) (hI : I m' e' L') (hm : m' < m) (hk : ∀ t v, Env.get e' t = some v → e.get t = some v) (hl : LE L L') :
    J N e L F (Back N F I m) := fun a w hf hs => ⟨m', e', L', hm, hI, ⟨hf.defers, hf.size, fun t v hv => hf.get t v (hk t v hv)⟩, hs.le hl⟩
/-- Slot by slot. -/
theorem sub_nil : ∀ t v, Env.get [] t = some v → e.get t = some v := fun t v h => by cases h
theorem sub_cons {k : Nat} {v u : Value} (g : GetE e k u) (huv : u = v) (h : ∀ t v, Env.get e' t = some v → e.get t = some v) : ∀ t w, Env.get ((k, v) :: e') t = some w → e.get t = some w := fun t w hu => by
  subst huv
  unfold Env.get at hu
  by_cases ht : Nat.beq k t = true
  · rw [if_pos ht] at hu
    have := Nat.eq_of_beq_eq_true ht
    subst this
    cases hu
    exact g.out
  · rw [if_neg ht] at hu
    exact h t w hu
/-! #### Regions -/
/-- How a list of operations is run. -/
class Steps' (P : outParam Program) (ops : outParam (Array Oper)) (W : List Oper → Act → World → Prop) : Prop where
  step : ∀ {o : Oper} {rest : List Oper} {a : Act} {w : World} {v : Value}, Region.wanted o (yielded ops a.tmps) = true → (execOp a.eval o).run P w = .ok (.value v) w → W rest (a.put o.dst v) w → W (o :: rest) a w
  pass : ∀ {o : Oper} {rest : List Oper} {a : Act} {w : World}, Region.wanted o (yielded ops a.tmps) = false → W rest (a.put o.dst undef) w → W (o :: rest) a w
theorem wanted_none {o : Oper} (h : o.guard = none) (y : Nat → Option Bool) : Region.wanted o y = true := by simp [Region.wanted, h]
instance steps_list {ops : Array Oper} : Steps' P ops (wpList P ops Q) where
  step := fun {o rest a w v} hw hr h => by
    unfold wpList
    rw [if_pos hw]
    left
    unfold Oper.wp
    rw [hr]
    exact h
  pass := fun {o rest a w} hw h => by
    unfold wpList
    rw [if_neg (by simp [hw])]
    exact h
/-- Operations that leave the world alone, in a region that draws its order. -/
def stillR (P : Program) (ops : Array Oper) (K : Act → World → Prop) (rest : List Oper) (a : Act) (w : World) : Prop := wpStill P ops w (fun a' => K a' w) rest a
instance steps_still {ops : Array Oper} : Steps' P ops (stillR P ops K) where
  step := fun {o rest a w v} hw hr h => by
    unfold stillR wpStill
    rw [if_pos hw]
    unfold Oper.still
    rw [hr]
    exact ⟨rfl, h⟩
  pass := fun {o rest a w} hw h => by
    unfold stillR wpStill
    rw [if_neg (by simp [hw])]
    exact h
theorem j_still_nil {ops : Array Oper} (h : J N e L F K) : J N e L F (stillR P ops K []) := h
theorem j_nil {ops : Array Oper} (h : J N e L F (Q .normal)) : J N e L F (wpList P ops Q []) := h
theorem j_region {i : Nat} {l : List Oper} (h : J N e L F (wpList P l.toArray Q l)) : J N e L F ((Code.region i l.toArray false).wp P Q) := fun a w hf hs => wp_region_lit (h a w hf hs)
theorem j_region_still {i : Nat} {l : List Oper} (hm : P.follows .mixedOrders = true) (hB : Region.lexB .any l.toArray = true) (h : J N e L F (stillR P l.toArray (Q .normal) l)) : J N e L F ((Code.region i l.toArray true).wp P Q) :=
  fun a w hf hs => wp_region_still_lit hm hB (h a _ hf hs.drew)
theorem j_region_tail {i : Nat} {l : List Oper} (n : Nat) (hm : P.follows .mixedOrders = true) (hB : Region.lexTailB .any l.toArray n = true) (h : J N e L F (stillR P l.toArray (wpList P l.toArray Q (l.drop n)) (l.take n))) : J N e L F ((Code.region i l.toArray true).wp P Q) :=
  fun a w hf hs => wp_region_still_tail n hm hB (h a _ hf hs.drew)
end
/-- What an operation yields that leaves the world alone. -/
class StepV (P : Program) (e : Env) (L : List Hp) (F : Fr) (o : Oper) (v : outParam Value) : Prop where
  out : ∀ {N : Nat} {a : Act} {w : World}, Fits N e a → Sat L F w → (execOp a.eval o).run P w = .ok (.value v) w
section
variable {P : Program} {N : Nat} {e e' : Env} {L L' : List Hp} {F : Fr} {W : List Oper → Act → World → Prop} {Q : Exit → Act → World → Prop} {ops : Array Oper}
  {d : Nat} {op : Op} {t : TypeId} {p : String} {af : Array Edge} {rest : List Oper} {v : Value} {j d' : Nat} {b : Bool}
theorem j_op [s : Steps' P ops W] [g : StepV P e L F ⟨some d, op, t, p, af, none⟩ v] (hd : Nat.blt d N = true) (h : J N ((d, v) :: e) L F (W rest)) : J N e L F (W (⟨some d, op, t, p, af, none⟩ :: rest)) :=
  fun a w hf hs => s.step (wanted_none rfl _) (g.out hf hs) (h _ w (hf.put hd v) hs)
class DstL (l : List Oper) (j : Nat) (d : outParam Nat) : Prop where out : (l[j]?).bind (·.dst) = some d
instance dstL_zero {d : Nat} {op : Op} {t : TypeId} {p : String} {af : Array Edge} {g : Option (Nat × Bool)} {l : List Oper} : DstL (⟨some d, op, t, p, af, g⟩ :: l) 0 d := ⟨rfl⟩
instance dstL_succ {o : Oper} {l : List Oper} {j d : Nat} [h : DstL l j d] : DstL (o :: l) (j + 1) d := ⟨by simpa using h.out⟩
class DstA (ops : Array Oper) (j : Nat) (d : outParam Nat) : Prop where out : (ops[j]?).bind (·.dst) = some d
instance dstA_of {l : List Oper} {j d : Nat} [h : DstL l j d] : DstA l.toArray j d := ⟨by rw [List.getElem?_toArray]; exact h.out⟩
theorem yielded_of {a : Act} (hf : Fits N e a) (hj : (ops[j]?).bind (·.dst) = some d') [g : GetE e d' (.bool b)] : yielded ops a.tmps j = some b := by
  unfold yielded
  rw [hj]
  simp only [Option.bind_some, hf.get _ _ g.out]
theorem j_gdo [s : Steps' P ops W] [hj : DstA ops j d'] [y : GetE e d' (.bool b)] [g : StepV P e L F ⟨some d, op, t, p, af, some (j, b)⟩ v] (hd : Nat.blt d N = true) (h : J N ((d, v) :: e) L F (W rest)) :
    J N e L F (W (⟨some d, op, t, p, af, some (j, b)⟩ :: rest)) :=
  fun a w hf hs => s.step (by simp [Region.wanted, yielded_of hf hj.out]) (g.out hf hs) (h _ w (hf.put hd v) hs)
theorem j_gskip_t [s : Steps' P ops W] [hj : DstA ops j d'] [y : GetE e d' (.bool false)] (hd : Nat.blt d N = true) (h : J N ((d, undef) :: e) L F (W rest)) :
    J N e L F (W (⟨some d, op, t, p, af, some (j, true)⟩ :: rest)) :=
  fun a w hf hs => s.pass (by simp [Region.wanted, yielded_of (b := false) hf hj.out]) (h _ w (hf.put hd undef) hs)
theorem j_gskip_f [s : Steps' P ops W] [hj : DstA ops j d'] [y : GetE e d' (.bool true)] (hd : Nat.blt d N = true) (h : J N ((d, undef) :: e) L F (W rest)) :
    J N e L F (W (⟨some d, op, t, p, af, some (j, false)⟩ :: rest)) :=
  fun a w hf hs => s.pass (by simp [Region.wanted, yielded_of (b := true) hf hj.out]) (h _ w (hf.put hd undef) hs)
theorem Fits.again {a : Act} (hf : Fits N e a) (h : e.get d = some v) : Fits N ((d, v) :: e) a := ⟨hf.defers, hf.size, fun t u hu => by
  unfold Env.get at hu
  by_cases ht : Nat.beq d t = true
  · rw [if_pos ht] at hu
    have := Nat.eq_of_beq_eq_true ht
    subst this
    cases hu
    exact hf.get _ _ h
  · rw [if_neg ht] at hu
    exact hf.get t u hu⟩
/-- A guard that is not decided: both ways. -/
theorem j_gsplit {dst : Option Nat} {c : Bool} [hj : DstA ops j d'] [s : Steps' P ops W] [y : GetE e d' (.bool c)]
    (ht : c = true → J N ((d', .bool true) :: e) L F (W (⟨dst, op, t, p, af, some (j, b)⟩ :: rest))) (hf : c = false → J N ((d', .bool false) :: e) L F (W (⟨dst, op, t, p, af, some (j, b)⟩ :: rest))) :
    J N e L F (W (⟨dst, op, t, p, af, some (j, b)⟩ :: rest)) := fun a w hfi hs => by
  cases c
  · exact hf rfl a w (hfi.again y.out) hs
  · exact ht rfl a w (hfi.again y.out) hs
end

/-- A value that is there if c is b. -/
def gv (c b : Bool) (v : Value) : Value := if c = b then v else undef
/-- The slots as they read where c is b. -/
class UnG (e : Env) (c b : Bool) (e' : outParam Env) : Prop where out : c = b → ∀ t v, Env.get e' t = some v → e.get t = some v
instance unG_nil {c b : Bool} : UnG [] c b [] := ⟨fun _ _ _ h => h⟩
instance (priority := high) unG_here {e e' : Env} {c b : Bool} {s : Nat} {v : Value} [h : UnG e c b e'] : UnG ((s, gv c b v) :: e) c b ((s, v) :: e') := ⟨fun hc t u hu => by
  unfold Env.get at *
  by_cases ht : Nat.beq s t = true
  · rw [if_pos ht] at hu ⊢
    rw [← hu]
    simp [gv, hc]
  · rw [if_neg ht] at hu ⊢
    exact h.out hc t u hu⟩
instance (priority := low) unG_there {e e' : Env} {c b : Bool} {s : Nat} {v : Value} [h : UnG e c b e'] : UnG ((s, v) :: e) c b ((s, v) :: e') := ⟨fun hc t u hu => by
  unfold Env.get at *
  by_cases ht : Nat.beq s t = true
  · rw [if_pos ht] at hu ⊢
    exact hu
  · rw [if_neg ht] at hu ⊢
    exact h.out hc t u hu⟩
section
variable {P : Program} {N : Nat} {e e' : Env} {L L' : List Hp} {F : Fr} {W : List Oper → Act → World → Prop} {ops : Array Oper} {d : Nat} {op : Op} {t : TypeId} {p : String} {af : Array Edge} {rest : List Oper} {v : Value} {j d' : Nat} {b c : Bool}
/-- A guarded operation that can be carried out wherever its guard lets it. -/
theorem j_gspec [s : Steps' P ops W] [hj : DstA ops j d'] [y : GetE e d' (.bool c)] [u : UnG e c b e'] [g : StepV P e' L F ⟨some d, op, t, p, af, some (j, b)⟩ v] (hd : Nat.blt d N = true) (h : J N ((d, gv c b v) :: e) L F (W rest)) :
    J N e L F (W (⟨some d, op, t, p, af, some (j, b)⟩ :: rest)) := fun a w hf hs => by
  by_cases hc : c = b
  · have h1 := h (a.put (some d) v) w (by have := hf.put hd v; unfold gv; rw [if_pos hc]; exact this) hs
    exact s.step (by simp [Region.wanted, yielded_of hf hj.out, hc]) (g.out ⟨hf.defers, hf.size, fun t u hu => hf.get t u (UnG.out hc t u hu)⟩ hs) h1
  · have h1 := h (a.put (some d) undef) w (by have := hf.put hd undef; unfold gv; rw [if_neg hc]; exact this) hs
    exact s.pass (by simp [Region.wanted, yielded_of hf hj.out, hc]) h1
end

/-! ### Lists of values, read and written at known places -/
class NthV (vs : List Value) (k : Nat) (v : outParam Value) : Prop where out : vs[k]? = some v
instance nthV_zero {v : Value} {vs : List Value} : NthV (v :: vs) 0 v := ⟨rfl⟩
instance nthV_succ {u v : Value} {vs : List Value} {k : Nat} [h : NthV vs k v] : NthV (u :: vs) (k + 1) v := ⟨by simpa using h.out⟩
class TakeV (vs : List Value) (n : Nat) (ws : outParam (List Value)) : Prop where out : n ≤ vs.length ∧ vs.take n = ws
instance takeV_zero {vs : List Value} : TakeV vs 0 [] := ⟨by simp⟩
instance takeV_succ {v : Value} {vs ws : List Value} {n : Nat} [h : TakeV vs n ws] : TakeV (v :: vs) (n + 1) (v :: ws) := ⟨by simpa using h.out⟩
class SubV (vs : List Value) (k n : Nat) (ws : outParam (List Value)) : Prop where out : k + n ≤ vs.length ∧ (vs.drop k).take n = ws
instance subV_zero {vs ws : List Value} {n : Nat} [h : TakeV vs n ws] : SubV vs 0 n ws := ⟨by simpa using h.out⟩
instance subV_succ {v : Value} {vs ws : List Value} {k n : Nat} [h : SubV vs k n ws] : SubV (v :: vs) (k + 1) n ws := ⟨by have := h.out; simp only [List.length_cons, List.drop_succ_cons]; exact ⟨by omega, this.2⟩⟩
/-- 'cs' laid over 'vs' from place k on. -/
def overL (vs : List Value) (k : Nat) (cs : List Value) : List Value := vs.take k ++ cs ++ vs.drop (k + cs.length)
class OverV (vs cs : List Value) (ws : outParam (List Value)) : Prop where out : cs.length ≤ vs.length ∧ cs ++ vs.drop cs.length = ws
instance overV_nil {vs : List Value} : OverV vs [] vs := ⟨by simp⟩
instance overV_cons {v c : Value} {vs cs ws : List Value} [h : OverV vs cs ws] : OverV (v :: vs) (c :: cs) (c :: ws) := ⟨by have := h.out; simp only [List.length_cons, List.drop_succ_cons, List.cons_append]; exact ⟨by omega, by rw [this.2]⟩⟩
class SetV (vs : List Value) (k : Nat) (cs : List Value) (ws : outParam (List Value)) : Prop where out : k + cs.length ≤ vs.length ∧ overL vs k cs = ws
instance setV_zero {vs cs ws : List Value} [h : OverV vs cs ws] : SetV vs 0 cs ws := ⟨by have := h.out; unfold overL; simp only [List.take_zero, List.nil_append, Nat.zero_add]; exact ⟨this.1, this.2⟩⟩
instance setV_succ {v : Value} {vs cs ws : List Value} {k : Nat} [h : SetV vs k cs ws] : SetV (v :: vs) (k + 1) cs (v :: ws) := ⟨by
  have := h.out
  unfold overL at *
  refine ⟨by simp only [List.length_cons]; omega, ?_⟩
  rw [show k + 1 + cs.length = (k + cs.length) + 1 by omega]
  simp only [List.take_succ_cons, List.cons_append, List.drop_succ_cons]
  rw [this.2]⟩
/-- The cells of a value. -/
class CellsV (v : Value) (cs : outParam (List Value)) : Prop where out : v.cells.toList = cs
instance cellsV_agg {cs : List Value} : CellsV (.agg cs.toArray) cs := ⟨rfl⟩
instance cellsV_int {k : IntKind} {n : Int} : CellsV (.int k n) [.int k n] := ⟨rfl⟩
instance cellsV_bool {b : Bool} : CellsV (.bool b) [.bool b] := ⟨rfl⟩
instance cellsV_string {s : ByteArray} : CellsV (.string s) [.string s] := ⟨rfl⟩
instance cellsV_pointer {a : Option Addr} : CellsV (.pointer a) [.pointer a] := ⟨rfl⟩
instance cellsV_slice {a : Option Addr} {n c : Nat} : CellsV (.slice a n c) [.slice a n c] := ⟨rfl⟩
instance cellsV_map {r : Option Nat} : CellsV (.map r) [.map r] := ⟨rfl⟩
instance cellsV_func {f : Fn} {a b : Array Value} : CellsV (.func f a b) [.func f a b] := ⟨rfl⟩
instance cellsV_nilFunc : CellsV .nilFunc [.nilFunc] := ⟨rfl⟩
/-- Values of one cell that may be stored. -/
class OneV (v : Value) : Prop where out : v.oneCell' = true
instance oneV_int {k : IntKind} {n : Int} : OneV (.int k n) := ⟨rfl⟩
instance oneV_bool {b : Bool} : OneV (.bool b) := ⟨rfl⟩
instance oneV_string {s : ByteArray} : OneV (.string s) := ⟨rfl⟩
instance oneV_pointer {a : Option Addr} : OneV (.pointer a) := ⟨rfl⟩
instance oneV_slice {a : Option Addr} {n c : Nat} : OneV (.slice a n c) := ⟨rfl⟩
instance oneV_map {r : Option Nat} : OneV (.map r) := ⟨rfl⟩
instance oneV_func {f : Fn} {a b : Array Value} : OneV (.func f a b) := ⟨rfl⟩
instance oneV_nilFunc : OneV .nilFunc := ⟨rfl⟩
class OneVs (vs : List Value) : Prop where out : ∀ v ∈ vs, v.oneCell' = true
instance oneVs_nil : OneVs [] := ⟨fun _ h => by cases h⟩
instance oneVs_cons {v : Value} {vs : List Value} [h : OneV v] [g : OneVs vs] : OneVs (v :: vs) := ⟨fun u hu => by
  rcases List.mem_cons.1 hu with rfl | hu
  · exact h.out
  · exact g.out u hu⟩

/-! ### Operations on values alone -/
section
variable {P : Program} {e : Env} {L : List Hp} {F : Fr} {d : Option Nat} {t u : TypeId} {p : String} {af : Array Edge} {g : Option (Nat × Bool)} {x y z : Operand} {v : Value} {k : IntKind} {i j : Int} {s r : ByteArray} {b c : Bool} {v1 : TypeId}
instance sv_move [hx : EvO e x v] : StepV P e L F ⟨d, .move x, t, p, af, g⟩ v := ⟨fun hf _ => by simp [execOp, hx.out hf]⟩
instance sv_assign [hx : EvO e x v] : StepV P e L F ⟨d, .assign x, t, p, af, g⟩ v := ⟨fun hf _ => by simp [execOp, hx.out hf]⟩
instance sv_pick_t [hx : EvO e x (.bool true)] [hy : EvO e y v] : StepV P e L F ⟨d, .pick x y z, t, p, af, g⟩ v := ⟨fun hf _ => by simp [execOp, hx.out hf, hy.out hf, asBool]⟩
instance sv_pick_f [hx : EvO e x (.bool false)] [hy : EvO e z v] : StepV P e L F ⟨d, .pick x y z, t, p, af, g⟩ v := ⟨fun hf _ => by simp [execOp, hx.out hf, hy.out hf, asBool]⟩
instance sv_pick_or [hx : EvO e x (.bool b)] [hy : EvO e y (.bool true)] [hz : EvO e z (gv b false (.bool c))] : StepV P e L F ⟨d, .pick x y z, t, p, af, g⟩ (.bool (b || c)) := ⟨fun hf _ => by
  simp only [execOp, hx.out hf, hy.out hf, hz.out hf, asBool, Sem.run_bind, Sem.run_pure, Result.andThen_ok]
  cases b <;> simp [gv]⟩
instance sv_pick_and [hx : EvO e x (.bool b)] [hz : EvO e z (.bool false)] [hy : EvO e y (gv b true (.bool c))] : StepV P e L F ⟨d, .pick x y z, t, p, af, g⟩ (.bool (b && c)) := ⟨fun hf _ => by
  simp only [execOp, hx.out hf, hy.out hf, hz.out hf, asBool, Sem.run_bind, Sem.run_pure, Result.andThen_ok]
  cases b <;> simp [gv]⟩
instance sv_nilCheck {a : Addr} [hx : EvO e x (.pointer (some a))] : StepV P e L F ⟨d, .nilCheck x, t, p, af, g⟩ (.pointer (some a)) := ⟨fun hf _ => by simp [execOp, hx.out hf]⟩
instance sv_nilCheck_func {f : Nat} {a1 a2 : Array Value} [hx : EvO e x (.func (.func f) a1 a2)] : StepV P e L F ⟨d, .nilCheck x, t, p, af, g⟩ (.func (.func f) a1 a2) := ⟨fun hf _ => by simp [execOp, hx.out hf]⟩
theorem run_bin {op : BinOp} {a : Act} {N : Nat} {w : World} {v1 v2 v : Value} (hf : Fits N e a) [hx : EvO e x v1] [hy : EvO e y v2] (hg : (eqGuard op t x y v1 v2).run P w = .ok () w) (hb : (binOp op t v1 v2).run P w = .ok v w) :
    (execOp a.eval ⟨d, .binOp op t x y u, t, p, af, g⟩).run P w = .ok (.value v) w := by
  simp [execOp, hx.out hf, hy.out hf, hg, hb]
theorem guard_int {op : BinOp} {w : World} {k' : IntKind} {i j : Int} : (eqGuard op t x y (.int k i) (.int k' j)).run P w = .ok () w := by
  unfold eqGuard
  cases op <;> simp
theorem guard_string {op : BinOp} {w : World} : (eqGuard op t x y (.string s) (.string r)).run P w = .ok () w := by
  unfold eqGuard
  cases op <;> simp
instance sv_add [hx : EvO e x (.int k i)] [hy : EvO e y (.int k j)] : StepV P e L F ⟨d, .binOp .add t x y u, v1, p, af, g⟩ (.int k (k.wrap (i + j))) := ⟨fun hf _ => by
  simp [execOp, hx.out hf, hy.out hf, guard_int, binOp, Op.intArith]⟩
instance sv_sub [hx : EvO e x (.int k i)] [hy : EvO e y (.int k j)] : StepV P e L F ⟨d, .binOp .sub t x y u, v1, p, af, g⟩ (.int k (k.wrap (i - j))) := ⟨fun hf _ => by
  simp [execOp, hx.out hf, hy.out hf, guard_int, binOp, Op.intArith]⟩
instance sv_mul [hx : EvO e x (.int k i)] [hy : EvO e y (.int k j)] : StepV P e L F ⟨d, .binOp .mul t x y u, v1, p, af, g⟩ (.int k (k.wrap (i * j))) := ⟨fun hf _ => by
  simp [execOp, hx.out hf, hy.out hf, guard_int, binOp, Op.intArith]⟩
instance sv_rem [hx : EvO e x (.int k i)] [hy : EvO e y (.int k j)] [hj : Ft (j ≠ 0)] : StepV P e L F ⟨d, .binOp .rem t x y u, v1, p, af, g⟩ (.int k (i.tmod j)) := ⟨fun hf _ => by
  simp [execOp, hx.out hf, hy.out hf, guard_int, binOp, Op.intDiv, hj.out]⟩
instance sv_quo [hx : EvO e x (.int k i)] [hy : EvO e y (.int k j)] [hj : Ft (j ≠ 0)] : StepV P e L F ⟨d, .binOp .quo t x y u, v1, p, af, g⟩ (.int k (k.wrap (i.tdiv j))) := ⟨fun hf _ => by
  simp [execOp, hx.out hf, hy.out hf, guard_int, binOp, Op.intDiv, hj.out]⟩
instance sv_eql [hx : EvO e x (.int k i)] [hy : EvO e y (.int k j)] : StepV P e L F ⟨d, .binOp .eql t x y u, v1, p, af, g⟩ (.bool (decide (i = j))) := ⟨fun hf _ => by
  simp [execOp, hx.out hf, hy.out hf, guard_int, binOp, Op.intCmp]
  exact Bool.eq_iff_iff.2 (by simp)⟩
instance sv_neq [hx : EvO e x (.int k i)] [hy : EvO e y (.int k j)] : StepV P e L F ⟨d, .binOp .neq t x y u, v1, p, af, g⟩ (.bool (decide (i ≠ j))) := ⟨fun hf _ => by
  simp [execOp, hx.out hf, hy.out hf, guard_int, binOp, Op.intCmp]
  exact Bool.eq_iff_iff.2 (by simp)⟩
instance sv_lss [hx : EvO e x (.int k i)] [hy : EvO e y (.int k j)] : StepV P e L F ⟨d, .binOp .lss t x y u, v1, p, af, g⟩ (.bool (decide (i < j))) := ⟨fun hf _ => by
  simp [execOp, hx.out hf, hy.out hf, guard_int, binOp, Op.intCmp]⟩
instance sv_leq [hx : EvO e x (.int k i)] [hy : EvO e y (.int k j)] : StepV P e L F ⟨d, .binOp .leq t x y u, v1, p, af, g⟩ (.bool (decide (i ≤ j))) := ⟨fun hf _ => by
  simp [execOp, hx.out hf, hy.out hf, guard_int, binOp, Op.intCmp]⟩
instance sv_gtr [hx : EvO e x (.int k i)] [hy : EvO e y (.int k j)] : StepV P e L F ⟨d, .binOp .gtr t x y u, v1, p, af, g⟩ (.bool (decide (j < i))) := ⟨fun hf _ => by
  simp [execOp, hx.out hf, hy.out hf, guard_int, binOp, Op.intCmp]⟩
instance sv_geq [hx : EvO e x (.int k i)] [hy : EvO e y (.int k j)] : StepV P e L F ⟨d, .binOp .geq t x y u, v1, p, af, g⟩ (.bool (decide (j ≤ i))) := ⟨fun hf _ => by
  simp [execOp, hx.out hf, hy.out hf, guard_int, binOp, Op.intCmp]⟩
instance sv_not [hx : EvO e x (.bool b)] : StepV P e L F ⟨d, .unOp .not t x, v1, p, af, g⟩ (.bool (!b)) := ⟨fun hf _ => by
  simp [execOp, hx.out hf, Op.unary]⟩
instance sv_neg [hx : EvO e x (.int k i)] : StepV P e L F ⟨d, .unOp .neg t x, v1, p, af, g⟩ (.int k (k.wrap (0 - i))) := ⟨fun hf _ => by
  simp [execOp, hx.out hf, Op.unary, Op.intArith]⟩
theorem toList_eq_iff {s r : ByteArray} : s.toList = r.toList ↔ s = r := by
  constructor
  · intro h
    rw [ByteArray.toList_eq, ByteArray.toList_eq] at h
    cases s; cases r
    simp only [ByteArray.mk.injEq]
    exact Array.toList_inj.1 h
  · rintro rfl; rfl
instance sv_eql_s [hx : EvO e x (.string s)] [hy : EvO e y (.string r)] : StepV P e L F ⟨d, .binOp .eql t x y u, v1, p, af, g⟩ (.bool (decide (s = r))) := ⟨fun hf _ => by
  simp [execOp, hx.out hf, hy.out hf, guard_string, binOp, Op.stringOp]
  exact Bool.eq_iff_iff.2 (by simp [← toList_eq_iff])⟩
instance sv_neq_s [hx : EvO e x (.string s)] [hy : EvO e y (.string r)] : StepV P e L F ⟨d, .binOp .neq t x y u, v1, p, af, g⟩ (.bool (decide (s ≠ r))) := ⟨fun hf _ => by
  simp [execOp, hx.out hf, hy.out hf, guard_string, binOp, Op.stringOp]
  exact Bool.eq_iff_iff.2 (by simp [← toList_eq_iff])⟩
instance sv_lss_s [hx : EvO e x (.string s)] [hy : EvO e y (.string r)] : StepV P e L F ⟨d, .binOp .lss t x y u, v1, p, af, g⟩ (.bool (Op.bytesLess s.toList r.toList)) := ⟨fun hf _ => by
  simp [execOp, hx.out hf, hy.out hf, guard_string, binOp, Op.stringOp]⟩
instance sv_concat [hx : EvO e x (.string s)] [hy : EvO e y (.string r)] [h : Ft (s.size + r.size ≤ 9223372036854775807)] : StepV P e L F ⟨d, .binOp .add t x y u, v1, p, af, g⟩ (.string (s ++ r)) := ⟨fun hf _ => by
  have := h.out
  have h2 : ¬ ((s.size + r.size : Nat) : Int) > IntKind.i64.max := by rw [show IntKind.i64.max = 9223372036854775807 from rfl]; omega
  simp only [execOp, hx.out hf, hy.out hf, guard_string, binOp, Op.stringOp, h2, Sem.run_bind, Sem.run_pure, Result.andThen_ok, if_false]⟩
instance sv_extract {vs : List Value} {n : Nat} [hx : EvO e x (.tuple vs.toArray)] [h : NthV vs n v] : StepV P e L F ⟨d, .extract x n, t, p, af, g⟩ v := ⟨fun hf _ => by
  have h2 : vs.toArray[n]? = some v := by rw [List.getElem?_toArray]; exact h.out
  simp only [execOp, hx.out hf, Instr.extract, h2, Sem.run_bind, Sem.run_pure, Result.andThen_ok]⟩
end
end Go.Proofs.YtjmicpkinflofaaDoor.S
