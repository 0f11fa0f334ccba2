/- What came in, of whatever kind, read as a value of the print's kinds: openers for strings, structs, slices, slices of structs. -/
import Derived.Test.YtecfnngbomnnjaaDoorWMore
import Derived.ChangeArms
import Derived.SizedLaws
namespace Go.Proofs.YtecfnngbomnnjaaDoor.Open
open Go.RowKit Go.Proofs.YtecfnngbomnnjaaDoorW.PrintWords
set_option linter.unusedVariables false

/-- What of a type that came in reads as a value of the kind, of which G holds. -/
def Opens (P : Program) {α : Type} (d : Kd α) (t : TypeId) (G : α → Prop) : Prop :=
  P.cellsOf t = d.sz ∧ ∀ {H : Type} {enc : TypeId × Value → H} {w : World} {base : Nat} {sp : Nat → Bool} {held : Bool} {fuel : Nat} {cs : List Value} {x : DataW H × List MemPlace},
    DataW.trod enc P w base sp held fuel t cs = some x → (DataW.weights P t x.1).all (· ≤ reachBytes) = true → ∃ v, d.K w v cs ∧ G v
theorem opens_int {P : Program} {t : TypeId} {k : IntKind} (ht : P.underlying t = some (.int k)) (hc : P.cellsOf t = 1) : Opens P (Kd.int k) t (fun n => (Lit.int k n).wf = true) := by
  refine ⟨hc, ?_⟩
  intro H enc w base sp held fuel cs x h _
  obtain ⟨n, rfl, _, hw⟩ := DataW.trod_int ht h
  exact ⟨n, rfl, hw⟩
theorem opens_bool {P : Program} {t : TypeId} (ht : P.underlying t = some .bool) (hc : P.cellsOf t = 1) : Opens P Kd.bool t (fun _ => True) := by
  refine ⟨hc, ?_⟩
  intro H enc w base sp held fuel cs x h _
  obtain ⟨n, rfl, _⟩ := DataW.trod_bool ht h
  exact ⟨n, rfl, trivial⟩
theorem opens_string {P : Program} {t : TypeId} (ht : P.underlying t = some .string) (hc : P.cellsOf t = 1) : Opens P Kd.string t (fun s => s.size ≤ 140737488351232) := by
  refine ⟨hc, ?_⟩
  intro H enc w base sp held fuel cs x h hz
  obtain ⟨s, rfl, rfl, _⟩ := DataW.trod_string ht h
  refine ⟨s, rfl, ?_⟩
  have := List.all_eq_true.1 hz s.data.toList.length (by simp [DataW.weights])
  have h2 : s.data.toList.length ≤ reachBytes := by simpa using this
  have h3 : s.data.toList.length = s.size := by simp
  rw [h3] at h2
  exact h2
theorem cells_read {w : World} {base : Nat} {a : Addr} {n : Nat} {cs : List Value} (h : w.cells? base a n = some cs) : cs.length = n ∧ ∀ i u, cs[i]? = some u → w.cell? (a.add i) = some u := by
  unfold World.cells? at h
  by_cases hb : base ≤ a.block
  · rw [if_pos hb] at h
    have hl := mapM_some_length h
    refine ⟨by simpa using hl, fun i u hu => ?_⟩
    have hi : i < n := by
      have := List.getElem?_eq_some_iff.1 hu
      obtain ⟨h1, _⟩ := this
      simpa using Nat.lt_of_lt_of_eq h1 (by simpa using hl)
    have := mapM_some_get h i i (by simp [hi])
    rw [this]
    exact hu
  · rw [if_neg hb] at h
    cases h
theorem add_add (a : Addr) (m j : Nat) : (a.add m).add j = a.add (m + j) := by
  by_cases h1 : m = 0
  · subst h1
    simp [Addr.add]
  · by_cases h2 : j = 0
    · subst h2
      simp [Addr.add]
    · simp [Addr.add, h1, h2]
      omega
theorem weightsAll_mem {H : Type} {P : Program} {e : TypeId} : ∀ {l : List (DataW H)} {d : DataW H}, d ∈ l → ∀ n ∈ d.weights P e, n ∈ DataW.weightsAll P e l
  | [], _, h, _, _ => by cases h
  | a :: r, d, h, n, hn => by
    rw [DataW.weightsAll]
    rcases List.mem_cons.1 h with rfl | h
    · exact List.mem_append.2 (.inl hn)
    · exact List.mem_append.2 (.inr (weightsAll_mem h n hn))
theorem opens_slice {P : Program} {α : Type} {d : Kd α} {G : α → Prop} {t e : TypeId} {B : Nat} (ht : P.underlying t = some (.slice e)) (hc : P.cellsOf t = 1) (hB : P.bytesOf e = B) (he : Opens P d e G) (z : α) :
    Opens P (Kd.slice e d) t (fun l => l.length * B ≤ 140737488351232 ∧ ∀ y ∈ l, G y) := by
  refine ⟨hc, ?_⟩
  intro H enc w base sp held fuel cs x h hz
  rcases DataW.trod_slice ht h with ⟨rfl, rfl⟩ | ⟨a, len, cap, elems, rest, n, rfl, rfl, rfl, hb, hl, hm, hlen, hel, _, _⟩
  · refine ⟨[], ⟨none, 0, rfl, Nat.le_refl _, ⟨rfl, by simp, fun h => absurd h (by simp)⟩⟩, by simp, fun y hy => by cases hy⟩
  · have hw : ∀ n ∈ ((elems.map (·.1)).length + (rest.map (·.1)).length) * P.bytesOf e :: (DataW.weightsAll P e (elems.map (·.1)) ++ DataW.weightsAll P e (rest.map (·.1))), n ≤ reachBytes := by
      intro n hn
      have e1 : DataW.weights P t (.slice (elems.map (·.1)) (rest.map (·.1))) = ((elems.map (·.1)).length + (rest.map (·.1)).length) * P.bytesOf e :: (DataW.weightsAll P e (elems.map (·.1)) ++ DataW.weightsAll P e (rest.map (·.1))) := by
        rw [DataW.weights, ht]
      have := List.all_eq_true.1 hz n (by rw [e1]; exact hn)
      simpa using this
    have key : ∀ i (hi : i < elems.length), ∃ y c, c.length = d.sz ∧ d.K w y c ∧ G y ∧ ∀ j u, c[j]? = some u → w.cell? (a.add (i * d.sz + j)) = some u := by
      intro i hi
      have h1 := hel i (by omega)
      rw [List.getElem?_eq_getElem hi] at h1
      obtain ⟨c, hcs, htr⟩ := Option.bind_eq_some_iff.1 h1
      obtain ⟨hcl, hcr⟩ := cells_read hcs
      obtain ⟨y, hK, hG⟩ := he.2 htr (by
        rw [List.all_eq_true]
        intro n hn
        have := hw n (List.mem_cons_of_mem _ (List.mem_append.2 (.inl (weightsAll_mem (List.mem_map.2 ⟨_, List.getElem_mem hi, rfl⟩) n hn))))
        simpa using this)
      refine ⟨y, c, by rw [hcl, he.1], hK, hG, fun j u hu => ?_⟩
      have := hcr j u hu
      rw [he.1] at this
      rw [add_add] at this
      exact this
    obtain ⟨f, hf⟩ : ∃ f : Nat → α, ∀ i, i < elems.length → ∃ c, c.length = d.sz ∧ d.K w (f i) c ∧ G (f i) ∧ ∀ j u, c[j]? = some u → w.cell? (a.add (i * d.sz + j)) = some u := by
      refine ⟨fun i => if hi : i < elems.length then Classical.choose (key i hi) else z, fun i hi => ?_⟩
      simp only [hi, dif_pos]
      exact Classical.choose_spec (key i hi)
    refine ⟨(List.range len).map f, ⟨some a, cap, by simp, by simpa using hl, ?_⟩, ?_, ?_⟩
    · refine ⟨by simp, by unfold maxLen at hm; simp; omega, fun _ => ⟨a, rfl, fun j p hp => ?_⟩⟩
      rw [List.getElem?_map] at hp
      obtain ⟨i, hi, rfl⟩ := Option.map_eq_some_iff.1 hp
      obtain ⟨hjl, rfl⟩ := List.getElem?_eq_some_iff.1 hi
      simp only [List.getElem_range, List.length_range] at hjl ⊢
      obtain ⟨c, h1, h2, _, h3⟩ := hf j (by omega)
      exact ⟨c, h1, h2, h3⟩
    · have := hw _ List.mem_cons_self
      rw [hB] at this
      simp only [List.length_map, List.length_range] at this ⊢
      have h2 : len * B ≤ (elems.length + rest.length) * B := Nat.mul_le_mul_right _ (by omega)
      unfold reachBytes at this
      omega
    · intro y hy
      obtain ⟨i, hi, rfl⟩ := List.mem_map.1 hy
      obtain ⟨c, _, _, h3, _⟩ := hf i (by have := List.mem_range.1 hi; omega)
      exact h3
theorem opens_iso {P : Program} {α β : Type} {d : Kd α} {f : β → α} {t : TypeId} {G : α → Prop} (h : Opens P d t G) (g : α → β) (hg : ∀ v, f (g v) = v) : Opens P (Kd.iso d f) t (fun x => G (f x)) := by
  refine ⟨h.1, ?_⟩
  intro H enc w base sp held fuel cs x hx hz
  obtain ⟨v, hK, hG⟩ := h.2 hx hz
  exact ⟨g v, by show d.K w (f (g v)) cs; rw [hg]; exact hK, by show G (f (g v)); rw [hg]; exact hG⟩
theorem opens_imp {P : Program} {α : Type} {d : Kd α} {t : TypeId} {G G' : α → Prop} (h : Opens P d t G) (hg : ∀ v, G v → G' v) : Opens P d t G' := by
  refine ⟨h.1, ?_⟩
  intro H enc w base sp held fuel cs x hx hz
  obtain ⟨v, hK, hG⟩ := h.2 hx hz
  exact ⟨v, hK, hg v hG⟩
/-- Fields in line. -/
def OpensL (P : Program) {α : Type} (d : Kd α) (fs : List Field) (o : Nat) (G : α → Prop) : Prop :=
  ∀ {H : Type} {enc : TypeId × Value → H} {w : World} {base : Nat} {sp : Nat → Bool} {held : Bool} {n : Nat} {cs : List Value} {xs : List (DataW H × List MemPlace)},
    cs.length = o + d.sz → xs.length = fs.length → (∀ (i : Nat) (f : Field), fs[i]? = some f → DataW.trod enc P w base sp held n f.type ((cs.drop f.offset).take (P.cellsOf f.type)) = xs[i]?) →
    (DataW.weightsEach P (fs.map (·.type)) (xs.map (·.1))).all (· ≤ reachBytes) = true → ∃ v, d.K w v (cs.drop o) ∧ G v
theorem opensL_one {P : Program} {α : Type} {d : Kd α} {f : Field} {o : Nat} {G : α → Prop} (ho : f.offset = o) (h : Opens P d f.type G) : OpensL P d [f] o G := by
  intro H enc w base sp held n cs xs hl hx ht hz
  obtain ⟨x, rfl⟩ : ∃ x, xs = [x] := by
    match xs, hx with
    | [x], _ => exact ⟨x, rfl⟩
  have h1 := ht 0 f rfl
  rw [ho] at h1
  obtain ⟨v, hK, hG⟩ := h.2 h1 (by
    rw [List.all_eq_true] at hz ⊢
    intro n hn
    refine hz n ?_
    simp only [List.map_cons, List.map_nil, DataW.weightsEach]
    exact List.mem_append.2 (.inl hn))
  refine ⟨v, ?_, hG⟩
  rw [List.take_of_length_le (by rw [List.length_drop, hl, h.1]; omega)] at hK
  exact hK
theorem opensL_cons {P : Program} {α β : Type} {a : Kd α} {b : Kd β} {f : Field} {fs : List Field} {o : Nat} {Ga : α → Prop} {Gb : β → Prop} (ho : f.offset = o) (h : Opens P a f.type Ga) (hr : OpensL P b fs (o + a.sz) Gb) :
    OpensL P (Kd.pair a b) (f :: fs) o (fun p => Ga p.1 ∧ Gb p.2) := by
  intro H enc w base sp held n cs xs hl hx ht hz
  obtain ⟨x, r, rfl⟩ : ∃ x r, xs = x :: r := by
    match xs, hx with
    | x :: r, _ => exact ⟨x, r, rfl⟩
  have hl' : cs.length = o + (a.sz + b.sz) := hl
  have h1 := ht 0 f rfl
  rw [ho] at h1
  rw [List.all_eq_true] at hz
  simp only [List.map_cons, DataW.weightsEach] at hz
  obtain ⟨v, hK, hG⟩ := h.2 h1 (by
    rw [List.all_eq_true]
    exact fun n hn => hz n (List.mem_append.2 (.inl hn)))
  obtain ⟨u, hK2, hG2⟩ := hr (enc := enc) (w := w) (base := base) (sp := sp) (held := held) (n := n) (cs := cs) (xs := r) (by omega) (by simpa using hx) (fun i g hg => by
    have := ht (i + 1) g (by simpa using hg)
    simpa using this) (by
    rw [List.all_eq_true]
    exact fun n hn => hz n (List.mem_append.2 (.inr hn)))
  refine ⟨(v, u), ⟨(cs.drop o).take a.sz, cs.drop (o + a.sz), ?_, ?_, hK2⟩, hG, hG2⟩
  · rw [← List.drop_drop]
    exact (List.take_append_drop _ _).symm
  · rw [h.1] at hK
    exact hK
theorem opens_struct {P : Program} {α : Type} {d : Kd α} {t : TypeId} {fs : Array Field} {G : α → Prop} (ht : P.underlying t = some (.struct fs)) (hc : P.cellsOf t = d.sz) (h : OpensL P d fs.toList 0 G) : Opens P d t G := by
  refine ⟨hc, ?_⟩
  intro H enc w base sp held fuel cs x hx hz
  obtain ⟨xs, n, rfl, rfl, hl, hxl, hg⟩ := DataW.trod_struct ht hx
  have e1 : DataW.weights P t (.agg (xs.map (·.1))) = DataW.weightsEach P (fs.toList.map (·.type)) (xs.map (·.1)) := by
    rw [DataW.weights, ht]
  rw [e1] at hz
  obtain ⟨v, hK, hG⟩ := h (enc := enc) (w := w) (base := base) (sp := sp) (held := held) (n := n) (cs := cs) (xs := xs) (by omega) (by simpa using hxl) (fun i f hf => hg i f (by simpa using hf)) hz
  exact ⟨v, by simpa using hK, hG⟩
/-- One argument's weights out of the row's. -/
theorem weight_of {H : Type} {P : Program} {ts : List TypeId} {ds : List (DataW H)} (h : (DataW.weightsEach P ts ds).all (· ≤ reachBytes) = true) {j : Nat} {t : TypeId} {d : DataW H} (ht : ts[j]? = some t) (hd : ds[j]? = some d) : (DataW.weights P t d).all (· ≤ reachBytes) = true := by
  rw [List.all_eq_true] at h ⊢
  exact fun n hn => h n (DataW.weights_mem_each ht hd n hn)
end Go.Proofs.YtecfnngbomnnjaaDoor.Open
