/- Arguments that came in, read as elements. Generic over programs. -/
import Derived.Test.YtjmicpkinflofaaDoorS12
import Derived.ChangeArms
import Derived.SizedLaws
import Derived.OpenShut
import Derived.WideShapes
import Derived.ShutString
namespace Go.Proofs.YtjmicpkinflofaaDoor.S
open Go.RowKit
set_option linter.unusedVariables false
set_option linter.unusedSimpArgs false
/-- What of a type that came in reads as an element, of which G holds. -/
def Opn (P : Program) {α : Type} (E : Enc α) (t : TypeId) (G : World → α → Prop) : Prop :=
  P.cellsOf t = E.sz ∧ ∀ {H : Type} {enc : TypeId × Value → H} {w : World} {base : Nat} {sp : Nat → Bool} {held : Bool} {fuel : Nat} {cs : List Value} {x : DataW H × List MemPlace},
    DataW.trod enc P w base sp held fuel t cs = some x → (DataW.weights P t x.1).all (· ≤ reachBytes) = true → ∃ v, cs = E.cells v ∧ G w v
abbrev IntG : World → Int → Prop := fun _ n => -9223372036854775808 ≤ n ∧ n ≤ 9223372036854775807
abbrev StrG : World → ByteArray → Prop := fun _ s => s.size ≤ 140737488351232
abbrev BoolG : World → Bool → Prop := fun _ _ => True
theorem opn_int {P : Program} {t : TypeId} (ht : P.underlying t = some (.int .i64)) (hc : P.cellsOf t = 1) : Opn P encI t IntG := by
  refine ⟨hc, ?_⟩
  intro H enc w base sp held fuel cs x h _
  obtain ⟨n, rfl, _, hw⟩ := DataW.trod_int ht h
  simp only [Lit.wf, Bool.and_eq_true, decide_eq_true_eq] at hw
  exact ⟨n, rfl, hw⟩
theorem opn_bool {P : Program} {t : TypeId} (ht : P.underlying t = some .bool) (hc : P.cellsOf t = 1) : Opn P encB t BoolG := by
  refine ⟨hc, ?_⟩
  intro H enc w base sp held fuel cs x h _
  obtain ⟨n, rfl, _⟩ := DataW.trod_bool ht h
  exact ⟨n, rfl, trivial⟩
theorem opn_string {P : Program} {t : TypeId} (ht : P.underlying t = some .string) (hc : P.cellsOf t = 1) : Opn P encS t StrG := by
  refine ⟨hc, ?_⟩
  intro H enc w base sp held fuel cs x h hz
  obtain ⟨s, rfl, rfl, _⟩ := DataW.trod_string ht h
  refine ⟨s, rfl, ?_⟩
  have := List.all_eq_true.1 hz s.data.toList.length (by simp [DataW.weights])
  have h2 : s.data.toList.length ≤ reachBytes := by simpa using this
  have h3 : s.data.toList.length = s.size := by simp
  rw [h3] at h2
  exact h2
/-- A slice that came in: where it stands, its capacity, its elements. -/
structure Sl (β : Type) where
  A : Option Addr
  c : Nat
  xs : List β
def encSl (β : Type) : Enc (Sl β) := ⟨1, by decide, fun s => [.slice s.A s.xs.length s.c], fun _ => rfl, fun x v h => by simp at h; subst h; rfl⟩
def SlG {β : Type} (E : Enc β) (B : Nat) (G : World → β → Prop) (w : World) (s : Sl β) : Prop := Rd (wat w) E s.A s.xs ∧ s.xs.length ≤ s.c ∧ s.xs.length * B ≤ 140737488351232 ∧ s.xs.length ≤ 9223372036854775807 ∧ ∀ y ∈ s.xs, G w y
theorem cells_read {w : World} {base : Nat} {a : Addr} {n : Nat} {cs : List Value} (h : w.cells? base a n = some cs) : cs.length = n ∧ ∀ i u, cs[i]? = some u → w.cell? (a.add i) = some u := by
  unfold World.cells? at h
  by_cases hb : base ≤ a.block
  · rw [if_pos hb] at h
    have hl := mapM_some_length h
    refine ⟨by simpa using hl, fun i u hu => ?_⟩
    have hi : i < n := by
      have := List.getElem?_eq_some_iff.1 hu
      obtain ⟨h1, _⟩ := this
      simpa using Nat.lt_of_lt_of_eq h1 (by simpa using hl)
    have := mapM_some_get h i i (by simp [hi])
    rw [this]
    exact hu
  · rw [if_neg hb] at h
    cases h
theorem add_add (a : Addr) (m j : Nat) : (a.add m).add j = a.add (m + j) := by
  by_cases h1 : m = 0
  · subst h1
    simp [Addr.add]
  · by_cases h2 : j = 0
    · subst h2
      simp [Addr.add]
    · simp [Addr.add, h1, h2]
      omega
theorem weightsAll_mem {H : Type} {P : Program} {e : TypeId} : ∀ {l : List (DataW H)} {d : DataW H}, d ∈ l → ∀ n ∈ d.weights P e, n ∈ DataW.weightsAll P e l
  | [], _, h, _, _ => by cases h
  | a :: r, d, h, n, hn => by
    rw [DataW.weightsAll]
    rcases List.mem_cons.1 h with rfl | h
    · exact List.mem_append.2 (.inl hn)
    · exact List.mem_append.2 (.inr (weightsAll_mem h n hn))
theorem cell_wat {w : World} {a : Addr} {k : Nat} {v : Value} (h : w.cell? (a.add k) = some v) : ∃ fr, wat w a.block (a.off + k) = some (.val v fr) := by
  have hb : (a.add k).block = a.block := by unfold Addr.add; split <;> rfl
  have ho : (a.add k).off = a.off + k := by unfold Addr.add; split <;> simp_all
  unfold World.cell? at h
  rw [hb, ho] at h
  unfold wat
  split at h
  · rename_i c t fr hh
    rw [hh]
    split at h
    · cases h
    · simp only
      rw [h]
      exact ⟨_, rfl⟩
  · cases h
theorem cell_spot {w : World} {a : Addr} {v : Value} (h : w.cell? a = some v) : a = ⟨a.block, a.off, none⟩ := by
  unfold World.cell? at h
  split at h
  · split at h
    · cases h
    · rename_i h1
      obtain ⟨b, o, s⟩ := a
      cases s with
      | none => rfl
      | some s => exact absurd rfl h1
  · cases h
theorem opn_slice {P : Program} {β : Type} {E : Enc β} {G : World → β → Prop} {t e : TypeId} {B : Nat} (ht : P.underlying t = some (.slice e)) (hc : P.cellsOf t = 1) (hB : P.bytesOf e = B) (he : Opn P E e G) :
    Opn P (encSl β) t (SlG E B G) := by
  refine ⟨hc, ?_⟩
  intro H enc w base sp held fuel cs x h hz
  rcases DataW.trod_slice ht h with ⟨rfl, rfl⟩ | ⟨a, len, cap, elems, rest, n, rfl, rfl, rfl, hb, hl, hm, hlen, hel, _, _⟩
  · exact ⟨⟨none, 0, []⟩, rfl, ⟨fun h => absurd rfl h, fun i x j v hi => by simp at hi⟩, Nat.le_refl _, by simp, by simp, fun y hy => by cases hy⟩
  · have hw : ∀ n ∈ ((elems.map (·.1)).length + (rest.map (·.1)).length) * P.bytesOf e :: (DataW.weightsAll P e (elems.map (·.1)) ++ DataW.weightsAll P e (rest.map (·.1))), n ≤ reachBytes := by
      intro n hn
      have e1 : DataW.weights P t (.slice (elems.map (·.1)) (rest.map (·.1))) = ((elems.map (·.1)).length + (rest.map (·.1)).length) * P.bytesOf e :: (DataW.weightsAll P e (elems.map (·.1)) ++ DataW.weightsAll P e (rest.map (·.1))) := by
        rw [DataW.weights, ht]
      have := List.all_eq_true.1 hz n (by rw [e1]; exact hn)
      simpa using this
    have key : ∀ i (hi : i < elems.length), ∃ y, G w y ∧ ∀ j u, (E.cells y)[j]? = some u → w.cell? (a.add (i * E.sz + j)) = some u := by
      intro i hi
      have h1 := hel i (by omega)
      rw [List.getElem?_eq_getElem hi] at h1
      obtain ⟨c, hcs, htr⟩ := Option.bind_eq_some_iff.1 h1
      obtain ⟨hcl, hcr⟩ := cells_read hcs
      obtain ⟨y, rfl, hG⟩ := he.2 htr (by
        rw [List.all_eq_true]
        intro n hn
        have := hw n (List.mem_cons_of_mem _ (List.mem_append.2 (.inl (weightsAll_mem (List.mem_map.2 ⟨_, List.getElem_mem hi, rfl⟩) n hn))))
        simpa using this)
      refine ⟨y, hG, fun j u hu => ?_⟩
      have := hcr j u hu
      rw [he.1] at this
      rw [add_add] at this
      exact this
    obtain ⟨l, hll, hlg⟩ : ∃ l : List β, l.length = elems.length ∧ ∀ i y, l[i]? = some y → G w y ∧ ∀ j u, (E.cells y)[j]? = some u → w.cell? (a.add (i * E.sz + j)) = some u := by
      have : ∀ n, n ≤ elems.length → ∃ l : List β, l.length = n ∧ ∀ i y, l[i]? = some y → G w y ∧ ∀ j u, (E.cells y)[j]? = some u → w.cell? (a.add (i * E.sz + j)) = some u := by
        intro n
        induction n with
        | zero => exact fun _ => ⟨[], rfl, fun i y h => by simp at h⟩
        | succ n ih =>
          intro hn
          obtain ⟨l, h1, h2⟩ := ih (by omega)
          obtain ⟨y, hy⟩ := key n (by omega)
          refine ⟨l ++ [y], by simp [h1], fun i z hz => ?_⟩
          rw [List.getElem?_append] at hz
          split at hz
          · exact h2 i z hz
          · rename_i hi
            have hi' : i = n := by
              have := (List.getElem?_eq_some_iff.1 hz).1
              simp at this
              omega
            subst hi'
            rw [h1, Nat.sub_self] at hz
            cases hz
            exact hy
      exact this _ (Nat.le_refl _)
    have hle : l.length = len := by omega
    refine ⟨⟨some a, cap, l⟩, by show [_] = [_]; rw [hle], ⟨fun hne => ?_, fun i x j v hi hj => ?_⟩, by show l.length ≤ cap; omega, ?_, by show l.length ≤ _; unfold maxLen at hm; omega, fun y hy => ?_⟩
    · cases l with
      | nil => exact absurd rfl hne
      | cons y l =>
        have hp := E.pos
        have hy := E.len y
        have h1 := (hlg 0 y rfl).2 0 ((E.cells y)[0]) (List.getElem?_eq_getElem (by omega))
        rw [Nat.zero_mul, Nat.zero_add] at h1
        have h2 : a.add 0 = a := rfl
        rw [h2] at h1
        exact congrArg some (cell_spot h1)
    · exact cell_wat ((hlg i x hi).2 j v hj)
    · have := hw _ List.mem_cons_self
      rw [hB] at this
      simp only [List.length_map] at this
      have h2 : l.length * B ≤ (elems.length + rest.length) * B := Nat.mul_le_mul_right _ (by omega)
      unfold reachBytes at this
      show l.length * B ≤ _
      omega
    · obtain ⟨i, hi⟩ := List.getElem?_of_mem hy
      exact (hlg i y hi).1
/-! ### Structs -/
def encPair {α β : Type} (a : Enc α) (b : Enc β) : Enc (α × β) := ⟨a.sz + b.sz, Nat.add_pos_left a.pos _, fun p => a.cells p.1 ++ b.cells p.2, fun p => by rw [List.length_append, a.len, b.len], fun p v h => by
  rcases List.mem_append.1 h with h | h
  · exact a.one _ v h
  · exact b.one _ v h⟩
theorem opn_iso {P : Program} {α β : Type} {E : Enc α} {E' : Enc β} {t : TypeId} {G : World → α → Prop} {G' : World → β → Prop} (h : Opn P E t G) (g : α → β) (hs : E.sz = E'.sz) (hg : ∀ v, E.cells v = E'.cells (g v)) (hG : ∀ w v, G w v → G' w (g v)) : Opn P E' t G' := by
  refine ⟨h.1.trans hs, ?_⟩
  intro H enc w base sp held fuel cs x hx hz
  obtain ⟨v, rfl, hG1⟩ := h.2 hx hz
  exact ⟨g v, hg v, hG w v hG1⟩
structure OpnL (P : Program) {α : Type} (E : Enc α) (fs : List Field) (o : Nat) (G : World → α → Prop) : Prop where
  out : ∀ {H : Type} {enc : TypeId × Value → H} {w : World} {base : Nat} {sp : Nat → Bool} {held : Bool} {n : Nat} {cs : List Value} {xs : List (DataW H × List MemPlace)},
    cs.length = o + E.sz → xs.length = fs.length → (∀ (i : Nat) (f : Field), fs[i]? = some f → DataW.trod enc P w base sp held n f.type ((cs.drop f.offset).take (P.cellsOf f.type)) = xs[i]?) →
    (DataW.weightsEach P (fs.map (·.type)) (xs.map (·.1))).all (· ≤ reachBytes) = true → ∃ v, cs.drop o = E.cells v ∧ G w v
theorem opnL_one {P : Program} {α : Type} {E : Enc α} {f : Field} {o : Nat} {G : World → α → Prop} (ho : f.offset = o) (h : Opn P E f.type G) : OpnL P E [f] o G := by
  constructor
  intro H enc w base sp held n cs xs hl hx ht hz
  obtain ⟨x, rfl⟩ : ∃ x, xs = [x] := by
    match xs, hx with
    | [x], _ => exact ⟨x, rfl⟩
  have h1 := ht 0 f rfl
  rw [ho] at h1
  obtain ⟨v, hK, hG⟩ := h.2 h1 (by
    rw [List.all_eq_true] at hz ⊢
    intro n hn
    refine hz n ?_
    simp only [List.map_cons, List.map_nil, DataW.weightsEach]
    exact List.mem_append.2 (.inl hn))
  refine ⟨v, ?_, hG⟩
  rw [List.take_of_length_le (by rw [List.length_drop, hl, h.1]; omega)] at hK
  exact hK
theorem opnL_cons {P : Program} {α β : Type} {a : Enc α} {b : Enc β} {f : Field} {fs : List Field} {o : Nat} {Ga : World → α → Prop} {Gb : World → β → Prop} (ho : f.offset = o) (h : Opn P a f.type Ga) (hr : OpnL P b fs (o + a.sz) Gb) :
    OpnL P (encPair a b) (f :: fs) o (fun w p => Ga w p.1 ∧ Gb w p.2) := by
  constructor
  intro H enc w base sp held n cs xs hl hx ht hz
  obtain ⟨x, r, rfl⟩ : ∃ x r, xs = x :: r := by
    match xs, hx with
    | x :: r, _ => exact ⟨x, r, rfl⟩
  have hl' : cs.length = o + (a.sz + b.sz) := hl
  have h1 := ht 0 f rfl
  rw [ho] at h1
  rw [List.all_eq_true] at hz
  simp only [List.map_cons, DataW.weightsEach] at hz
  obtain ⟨v, hK, hG⟩ := h.2 h1 (by
    rw [List.all_eq_true]
    exact fun n hn => hz n (List.mem_append.2 (.inl hn)))
  obtain ⟨u, hK2, hG2⟩ := hr.out (enc := enc) (w := w) (base := base) (sp := sp) (held := held) (n := n) (cs := cs) (xs := r) (by omega) (by simpa using hx) (fun i g hg => by
    have := ht (i + 1) g (by simpa using hg)
    simpa using this) (by
    rw [List.all_eq_true]
    exact fun n hn => hz n (List.mem_append.2 (.inr hn)))
  refine ⟨(v, u), ?_, hG, hG2⟩
  show _ = a.cells v ++ b.cells u
  rw [← hK, ← hK2, h.1, ← List.drop_drop]
  exact (List.take_append_drop _ _).symm
theorem opn_struct {P : Program} {α : Type} {E : Enc α} {t : TypeId} {fs : Array Field} {G : World → α → Prop} (ht : P.underlying t = some (.struct fs)) (hc : P.cellsOf t = E.sz) (h : OpnL P E fs.toList 0 G) : Opn P E t G := by
  refine ⟨hc, ?_⟩
  intro H enc w base sp held fuel cs x hx hz
  obtain ⟨xs, n, rfl, rfl, hl, hxl, hg⟩ := DataW.trod_struct ht hx
  have e1 : DataW.weights P t (.agg (xs.map (·.1))) = DataW.weightsEach P (fs.toList.map (·.type)) (xs.map (·.1)) := by
    rw [DataW.weights, ht]
  rw [e1] at hz
  obtain ⟨v, hK, hG⟩ := h.out (enc := enc) (w := w) (base := base) (sp := sp) (held := held) (n := n) (cs := cs) (xs := xs) (by omega) (by simpa using hxl) (fun i f hf => hg i f (by simpa using hf)) hz
  exact ⟨v, by simpa using hK, hG⟩
/-- One argument's weights out of the row's. -/
theorem weight_of {H : Type} {P : Program} {ts : List TypeId} {ds : List (DataW H)} (h : (DataW.weightsEach P ts ds).all (· ≤ reachBytes) = true) {j : Nat} {t : TypeId} {d : DataW H} (ht : ts[j]? = some t) (hd : ds[j]? = some d) : (DataW.weights P t d).all (· ≤ reachBytes) = true := by
  rw [List.all_eq_true] at h ⊢
  exact fun n hn => h n (DataW.weights_mem_each ht hd n hn)
/-- An argument's value, of its cells. -/
theorem arg_agg {P : Program} {w : World} {r : Reach} {base : Nat} {t : TypeId} {fs : Array Field} {v : Value} (ht : P.underlying t = some (.struct fs)) (h : Value.okWide P w r base t v) : ∃ l : List Value, v = .agg l.toArray := by
  simp only [Value.okWide, ht] at h
  obtain ⟨cs, h1, _⟩ := h
  exact ⟨cs.toList, by rw [h1]⟩
theorem arg_cells_agg {l : List Value} : (Value.agg l.toArray).cells.toList = l := by simp [Value.cells]
theorem arg_one {P : Program} {w : World} {r : Reach} {base : Nat} {t : TypeId} {v : Value} {d : TypeDesc} (ht : P.underlying t = some d) (hd : match d with | .int _ | .bool | .string | .slice _ => True | _ => False) (h : Value.okWide P w r base t v) : v.cells.toList = [v] := by
  simp only [Value.okWide, ht] at h
  cases d <;> first | exact hd.elim | (simp only [Cell.okWide] at h; cases v <;> simp_all [Cell.ok, Value.cells])
/-- What a slice that came in is to a walk. -/
theorem Rd.ro {α : Type} {w : World} {E : Enc α} {A : Option Addr} {xs : List α} (h : Rd (wat w) E A xs) : RO ⟨wat w, w⟩ E A xs := ⟨h⟩
instance (priority := low) ft_lit {k n : Nat} [h : EqB (Nat.ble n k) false] : Ft (k < n) := ⟨by
  have h1 := h.out
  have h2 : ¬ n ≤ k := fun hh => by rw [Nat.ble_eq_true_of_le hh] at h1; cases h1
  omega⟩
/-! ### Is it nil, told before -/
class IsN (A : Option Addr) (b : outParam Bool) : Prop where out : A.isNone = b
section
variable {P : Program} {e : Env} {L : List Hp} {F : Fr} {dst : Option Nat} {t u et v1 : TypeId} {p : String} {af : Array Edge} {g : Option (Nat × Bool)} {x y : Operand} {A : Option Addr} {b : Bool}
instance (priority := high) sv_eql_ptr_isN [hx : EvO e x (.pointer A)] [hy : EvO e y (.pointer none)] [ht : Und P t (.pointer et)] [hn : IsN A b] : StepV P e L F ⟨dst, .binOp .eql t x y u, v1, p, af, g⟩ (.bool b) := by
  have := sv_eql_ptr_opt (P := P) (e := e) (L := L) (F := F) (dst := dst) (t := t) (u := u) (et := et) (v1 := v1) (p := p) (af := af) (g := g) (x := x) (y := y) (A := A)
  rwa [hn.out] at this
instance (priority := high) sv_neq_ptr_isN [hx : EvO e x (.pointer A)] [hy : EvO e y (.pointer none)] [ht : Und P t (.pointer et)] [hn : IsN A b] : StepV P e L F ⟨dst, .binOp .neq t x y u, v1, p, af, g⟩ (.bool (!b)) := by
  have := sv_neq_ptr_opt (P := P) (e := e) (L := L) (F := F) (dst := dst) (t := t) (u := u) (et := et) (v1 := v1) (p := p) (af := af) (g := g) (x := x) (y := y) (A := A)
  rwa [hn.out] at this
instance (priority := high) sv_eql_bool_same [hx : EvO e x (.bool b)] [hy : EvO e y (.bool b)] [ht : Und P t .bool] : StepV P e L F ⟨dst, .binOp .eql t x y u, v1, p, af, g⟩ (.bool true) := by
  have := sv_eql_bool (P := P) (e := e) (L := L) (F := F) (d := dst) (t := t) (u := u) (v1 := v1) (p := p) (af := af) (g := g) (x := x) (y := y) (b := b) (c := b)
  rwa [show (b == b) = true by cases b <;> rfl] at this
end
/-! ### What a pointer that may be nil points to -/
def optR {α : Type} (R : Nat → α → Hp) (A : Option Addr) (o : Option α) : Hp := fun h => (A = none ∧ o = none ∧ h = Heap.emp) ∨ ∃ b x, A = some ⟨b, 0, none⟩ ∧ o = some x ∧ R b x h
section
variable {α : Type} {R : Nat → α → Hp} {A : Option Addr} {o : Option α} {L L' : List Hp} {b : Nat} {x : α} {N : Nat} {e : Env} {F : Fr} {K : Act → World → Prop}
theorem LE.optNone : LE L (optR R none none :: L) := fun h hh => ⟨h, Heap.sub_refl, Heap.emp, h, Heap.emp_dj, Heap.emp_un.symm, .inl ⟨rfl, rfl, rfl⟩, hh⟩
theorem LE.optSome (hp : Pick (R b x) L L') : LE L (optR R (some ⟨b, 0, none⟩) (some x) :: L') := LE.pick hp (LE.head fun h hh => .inr ⟨b, x, rfl, rfl, hh⟩)
theorem optR.iso {h : Heap} (hh : optR R A o h) : A.isNone = o.isNone := by
  rcases hh with ⟨rfl, rfl, _⟩ | ⟨b, x, rfl, rfl, _⟩ <;> rfl
theorem j_opt (hp : Pick (optR R A o) L L') (h1 : A = none → o = none → J N e L' F K) (h2 : ∀ b x, A = some ⟨b, 0, none⟩ → o = some x → J N e (R b x :: L') F K) : J N e L F K := fun a w hf hs => by
  obtain ⟨h, hl, hr⟩ := hs
  obtain ⟨k1, k2, hd, rfl, hc, hl2⟩ := (hp.stars h).1 hl
  rcases hc with ⟨e1, e2, rfl⟩ | ⟨b, x, e1, e2, hx⟩
  · exact h1 e1 e2 a w hf ⟨_, by rw [Heap.emp_un]; exact hl2, hr⟩
  · exact h2 b x e1 e2 a w hf ⟨_, ⟨k1, k2, hd, rfl, hx, hl2⟩, hr⟩
end
attribute [irreducible] optR
end Go.Proofs.YtjmicpkinflofaaDoor.S
