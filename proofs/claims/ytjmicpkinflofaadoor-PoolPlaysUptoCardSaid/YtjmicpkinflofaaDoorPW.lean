/- pool: what calls do to a pool, plainly -/
import Derived.Test.YtjmicpkinflofaaDoorPD
namespace Go.Proofs.YtjmicpkinflofaaDoor.S
open Go.RowKit
set_option linter.unusedVariables false
set_option linter.unusedSimpArgs false
set_option maxRecDepth 100000
set_option maxHeartbeats 4000000
theorem bad_or (σ : Pl) (i : Int) : σ.bad i = true ∨ ∃ (k : Nat) (o : PObj), i = (k : Int) ∧ σ.rows[k]? = some o ∧ k < σ.rows.length ∧ σ.bad i = false ∧ σ.row i = o := by
  cases hb : σ.bad i with
  | true => exact .inl rfl
  | false =>
    right
    simp only [Pl.bad, Bool.or_eq_false_iff, decide_eq_false_iff_not] at hb
    have hk : i.toNat < σ.rows.length := by omega
    refine ⟨i.toNat, σ.rows[i.toNat], by omega, List.getElem?_eq_getElem hk, hk, rfl, ?_⟩
    simp [Pl.row, hk]
theorem namedAt_iff {σ : Pl} (hw : Wf σ) {s : ByteArray} (hs : s ≠ bE) {k : Nat} : namedAt σ.rows s = some k ↔ ∃ o, σ.rows[k]? = some o ∧ o.name = s := by
  constructor
  · intro h
    obtain ⟨x, h1, h2, _⟩ := findIdx_some h
    exact ⟨x, h1, by simpa using h2⟩
  · rintro ⟨o, ho, rfl⟩
    refine findIdx_first ho (by simp) fun i y hi hy => ?_
    refine decide_eq_false fun hh => ?_
    have := hw.names i k y o hy ho hh (by rw [hh]; exact hs)
    omega
theorem namedAt_none {rows : List PObj} {s : ByteArray} : namedAt rows s = none ↔ ∀ (k : Nat) o, rows[k]? = some o → o.name ≠ s := by
  unfold namedAt
  rw [findIdx_none]
  constructor <;> intro h k o ho <;> simpa using h k o ho
theorem ownedAt_iff {σ : Pl} (hw : Wf σ) {f : Int} (hf : 0 ≤ f) {k : Nat} : ownedAt σ.rows f = some k ↔ ∃ o, σ.rows[k]? = some o ∧ o.owner = f := by
  constructor
  · intro h
    obtain ⟨x, h1, h2, _⟩ := findIdx_some h
    exact ⟨x, h1, by simpa using h2⟩
  · rintro ⟨o, ho, rfl⟩
    refine findIdx_first ho (by simp) fun i y hi hy => ?_
    refine decide_eq_false fun hh => ?_
    have := hw.owners i k y o hy ho hh (by omega)
    omega
theorem ownedAt_none {rows : List PObj} {f : Int} : ownedAt rows f = none ↔ ∀ (k : Nat) o, rows[k]? = some o → o.owner ≠ f := by
  unfold ownedAt
  rw [findIdx_none]
  constructor <;> intro h k o ho <;> simpa using h k o ho
theorem opt_ext {a b : Option Nat} (h : ∀ k, a = some k ↔ b = some k) : a = b := by
  cases a with
  | none =>
    cases b with
    | none => rfl
    | some y => exact ((h y).2 rfl)
  | some x => exact ((h x).1 rfl).symm
theorem set_get {rows : List PObj} {k j : Nat} {o o' x : PObj} (ho : rows[k]? = some o) : (rows.set k o')[j]? = some x ↔ (j = k ∧ x = o') ∨ (j ≠ k ∧ rows[j]? = some x) := by
  rw [List.getElem?_set]
  by_cases h : k = j
  · subst h
    rw [if_pos rfl, if_pos (List.getElem?_eq_some_iff.1 ho).1]
    constructor
    · intro hh; exact .inl ⟨rfl, (Option.some.inj hh).symm⟩
    · rintro (⟨_, rfl⟩ | ⟨h1, _⟩)
      · rfl
      · exact absurd rfl h1
  · rw [if_neg h]
    constructor
    · exact fun hh => .inr ⟨fun h1 => h h1.symm, hh⟩
    · rintro (⟨h1, _⟩ | ⟨_, h1⟩)
      · exact absurd h1.symm h
      · exact h1
theorem Wf.put {σ : Pl} (hw : Wf σ) {k : Nat} {o o' : PObj} (ho : σ.rows[k]? = some o) (h1 : okRow o' σ.files = true)
    (h2 : ∀ (j : Nat) x, j ≠ k → σ.rows[j]? = some x → x.name = o'.name → o'.name = bE) (h3 : ∀ (j : Nat) x, j ≠ k → σ.rows[j]? = some x → x.owner = o'.owner → o'.owner < 0) (h4 : (k : Int) ∈ σ.queue → o'.owner = -1) : Wf { σ with rows := σ.rows.set k o' } where
  fl := hw.fl
  len := by have := hw.len; simpa using this
  row := fun j x hx => by
    rcases (set_get ho).1 hx with ⟨_, rfl⟩ | ⟨_, hx⟩
    · exact h1
    · exact hw.row j x hx
  names := fun i j a b ha hb hab hne => by
    rcases (set_get ho).1 ha with ⟨hi, rfl⟩ | ⟨hi, ha'⟩ <;> rcases (set_get ho).1 hb with ⟨hj, hbb⟩ | ⟨hj, hb'⟩
    · rw [hi, hj]
    · exact absurd (h2 j b hj hb' hab.symm) hne
    · rw [hbb] at hab; exact absurd (hab.trans (h2 i a hi ha' hab)) hne
    · exact hw.names i j a b ha' hb' hab hne
  owners := fun i j a b ha hb hab hne => by
    rcases (set_get ho).1 ha with ⟨hi, rfl⟩ | ⟨hi, ha'⟩ <;> rcases (set_get ho).1 hb with ⟨hj, hbb⟩ | ⟨hj, hb'⟩
    · rw [hi, hj]
    · have := h3 j b hj hb' hab.symm; omega
    · rw [hbb] at hab; have := h3 i a hi ha' hab; omega
    · exact hw.owners i j a b ha' hb' hab hne
  nd := hw.nd
  qr := fun i hi => by
    obtain ⟨j, x, rfl, hx, hxo⟩ := hw.qr i hi
    by_cases hj : j = k
    · subst hj
      exact ⟨j, o', rfl, (set_get ho).2 (.inl ⟨rfl, rfl⟩), h4 hi⟩
    · exact ⟨j, x, rfl, (set_get ho).2 (.inr ⟨hj, hx⟩), hxo⟩
theorem okRow_iff {o : PObj} {f : Int} : okRow o f = true ↔ labelOk o.name = true ∧ labelOk o.tag = true ∧ 0 ≤ o.bucket ∧ o.bucket ≤ 1048576 ∧ -1 ≤ o.owner ∧ o.owner < f := by
  simp [okRow, Bool.and_eq_true, and_assoc]
theorem Wf.owner {σ : Pl} (hw : Wf σ) {k : Nat} {o : PObj} (ho : σ.rows[k]? = some o) : -1 ≤ o.owner ∧ o.owner < σ.files := by
  have := okRow_iff.1 (hw.row k o ho)
  exact ⟨this.2.2.2.2.1, this.2.2.2.2.2⟩
/-! ### Release -/
theorem Wf.free {σ : Pl} (hw : Wf σ) {k : Nat} {o : PObj} (ho : σ.rows[k]? = some o) : Wf { σ with rows := σ.rows.set k { o with owner := -1 } } := by
  have h := okRow_iff.1 (hw.row k o ho)
  have hf := hw.fl
  refine hw.put ho (okRow_iff.2 ⟨h.1, h.2.1, h.2.2.1, h.2.2.2.1, by simp, by simp; omega⟩) (fun j x hj hx hn => ?_) (fun j x hj hx hn => by simp) (fun _ => rfl)
  exact Classical.byContradiction fun hne => hj (hw.names j k x o hx ho hn (by rw [hn]; exact hne))
theorem NamesOk.same {σ : Pl} {mn : List (ByteArray × Int)} (hw : Wf σ) {k : Nat} {o o' : PObj} (ho : σ.rows[k]? = some o) (hw' : Wf { σ with rows := σ.rows.set k o' }) (hn : o'.name = o.name) (h : NamesOk mn σ.rows) : NamesOk mn (σ.rows.set k o') := by
  refine ⟨h.1, fun s => ?_⟩
  rw [h.2]
  by_cases hs : s = bE
  · rw [if_pos hs, if_pos hs]
  · rw [if_neg hs, if_neg hs]
    congr 1
    refine opt_ext fun j => ?_
    rw [namedAt_iff hw hs, namedAt_iff hw' hs]
    constructor
    · rintro ⟨x, hx, rfl⟩
      by_cases hj : j = k
      · subst hj
        rw [ho] at hx
        cases hx
        exact ⟨o', (set_get ho).2 (.inl ⟨rfl, rfl⟩), hn⟩
      · exact ⟨x, (set_get ho).2 (.inr ⟨hj, hx⟩), rfl⟩
    · rintro ⟨x, hx, rfl⟩
      rcases (set_get ho).1 hx with ⟨rfl, rfl⟩ | ⟨_, hx⟩
      · exact ⟨o, ho, hn.symm⟩
      · exact ⟨x, hx, rfl⟩
theorem OwnersOk.same {σ : Pl} {mo : List (Int × Int)} (hw : Wf σ) {k : Nat} {o o' : PObj} (ho : σ.rows[k]? = some o) (hw' : Wf { σ with rows := σ.rows.set k o' }) (hn : o'.owner = o.owner) (h : OwnersOk mo σ.rows) : OwnersOk mo (σ.rows.set k o') := by
  refine ⟨h.1, fun f => ?_⟩
  rw [h.2]
  by_cases hf : f < 0
  · rw [if_pos hf, if_pos hf]
  · rw [if_neg hf, if_neg hf]
    congr 1
    refine opt_ext fun j => ?_
    rw [ownedAt_iff hw (by omega), ownedAt_iff hw' (by omega)]
    constructor
    · rintro ⟨x, hx, rfl⟩
      by_cases hj : j = k
      · subst hj
        rw [ho] at hx
        cases hx
        exact ⟨o', (set_get ho).2 (.inl ⟨rfl, rfl⟩), hn⟩
      · exact ⟨x, (set_get ho).2 (.inr ⟨hj, hx⟩), rfl⟩
    · rintro ⟨x, hx, rfl⟩
      rcases (set_get ho).1 hx with ⟨rfl, rfl⟩ | ⟨_, hx⟩
      · exact ⟨o, ho, hn.symm⟩
      · exact ⟨x, hx, rfl⟩
theorem OwnersOk.free {σ : Pl} {mo : List (Int × Int)} (hw : Wf σ) {k : Nat} {o : PObj} (ho : σ.rows[k]? = some o) (h0 : 0 ≤ o.owner) (h : OwnersOk mo σ.rows) : OwnersOk (mdel mo o.owner) (σ.rows.set k { o with owner := -1 }) := by
  have hw' := hw.free ho
  refine ⟨mdel_nodup h.1, fun f => ?_⟩
  by_cases hfo : f = o.owner
  · subst hfo
    rw [mget_mdel_same h.1, if_neg (by omega)]
    rw [show ownedAt (σ.rows.set k { o with owner := -1 }) o.owner = none from ownedAt_none.2 fun j x hx hh => by
      rcases (set_get ho).1 hx with ⟨rfl, rfl⟩ | ⟨hj, hx⟩
      · simp at hh; omega
      · exact hj (hw.owners j k x o hx ho hh (by omega))]
    rfl
  · rw [mget_mdel_ne (fun hh => hfo hh.symm), h.2]
    by_cases hf : f < 0
    · rw [if_pos hf, if_pos hf]
    · rw [if_neg hf, if_neg hf]
      congr 1
      refine opt_ext fun j => ?_
      rw [ownedAt_iff hw (by omega), ownedAt_iff hw' (by omega)]
      constructor
      · rintro ⟨x, hx, rfl⟩
        have hj : j ≠ k := fun hh => hfo (by subst hh; rw [ho] at hx; cases hx; rfl)
        exact ⟨x, (set_get ho).2 (.inr ⟨hj, hx⟩), rfl⟩
      · rintro ⟨x, hx, rfl⟩
        rcases (set_get ho).1 hx with ⟨rfl, rfl⟩ | ⟨_, hx⟩
        · simp at hf
        · exact ⟨x, hx, rfl⟩
/-! ### Assign -/
theorem Wf.give {σ : Pl} (hw : Wf σ) {k : Nat} {o : PObj} {f : Int} (ho : σ.rows[k]? = some o) (h0 : 0 ≤ f ∧ f < σ.files) (h1 : ownedAt σ.rows f = none) (h2 : (k : Int) ∉ σ.queue) : Wf { σ with rows := σ.rows.set k { o with owner := f } } := by
  have h := okRow_iff.1 (hw.row k o ho)
  refine hw.put ho (okRow_iff.2 ⟨h.1, h.2.1, h.2.2.1, h.2.2.2.1, by simp; omega, h0.2⟩) (fun j x hj hx hn => ?_) (fun j x hj hx hn => absurd hn (ownedAt_none.1 h1 j x hx)) (fun hk => absurd hk h2)
  exact Classical.byContradiction fun hne => hj (hw.names j k x o hx ho hn (by rw [hn]; exact hne))
theorem OwnersOk.give {σ : Pl} {mo : List (Int × Int)} (hw : Wf σ) {k : Nat} {o : PObj} {f : Int} (ho : σ.rows[k]? = some o) (h0 : 0 ≤ f ∧ f < σ.files) (h1 : ownedAt σ.rows f = none) (h2 : (k : Int) ∉ σ.queue) (h3 : o.owner < 0) (h : OwnersOk mo σ.rows) : OwnersOk (mput mo f (k : Int)) (σ.rows.set k { o with owner := f }) := by
  have hw' := hw.give ho h0 h1 h2
  refine ⟨mput_nodup h.1, fun g => ?_⟩
  by_cases hg : g = f
  · subst hg
    rw [mget_mput_same, if_neg (by omega), (ownedAt_iff hw' h0.1).2 ⟨_, (set_get ho).2 (.inl ⟨rfl, rfl⟩), rfl⟩]
    rfl
  · rw [mget_mput_ne (fun hh => hg hh.symm), h.2]
    by_cases hf : g < 0
    · rw [if_pos hf, if_pos hf]
    · rw [if_neg hf, if_neg hf]
      congr 1
      refine opt_ext fun j => ?_
      rw [ownedAt_iff hw (by omega), ownedAt_iff hw' (by omega)]
      constructor
      · rintro ⟨x, hx, rfl⟩
        have hj : j ≠ k := fun hh => by subst hh; rw [ho] at hx; cases hx; omega
        exact ⟨x, (set_get ho).2 (.inr ⟨hj, hx⟩), rfl⟩
      · rintro ⟨x, hx, rfl⟩
        rcases (set_get ho).1 hx with ⟨rfl, rfl⟩ | ⟨_, hx⟩
        · exact absurd rfl hg
        · exact ⟨x, hx, rfl⟩
/-! ### Set -/
theorem takenBy_false {σ : Pl} (hw : Wf σ) {s : ByteArray} {k : Nat} (h : takenBy σ s k = false) {j : Nat} {x : PObj} (hj : j ≠ k) (hx : σ.rows[j]? = some x) (hn : x.name = s) : s = bE := Classical.byContradiction fun hne => by
  unfold takenBy at h
  rw [if_neg hne, (namedAt_iff hw hne).2 ⟨x, hx, hn⟩] at h
  simp only [ne_eq, decide_eq_false_iff_not, Decidable.not_not] at h
  omega
theorem Wf.name {σ : Pl} (hw : Wf σ) {k : Nat} {o o' : PObj} (ho : σ.rows[k]? = some o) (h1 : okRow o' σ.files = true) (h2 : takenBy σ o'.name k = false) (h3 : o'.owner = o.owner) : Wf { σ with rows := σ.rows.set k o' } := by
  refine hw.put ho h1 (fun j x hj hx hn => takenBy_false hw h2 hj hx hn) (fun j x hj hx hn => ?_) (fun hk => ?_)
  · refine Classical.byContradiction fun hne => hj (hw.owners j k x o hx ho (by rw [hn, h3]) (by rw [hn]; omega))
  · obtain ⟨j, x, hj, hx, hxo⟩ := hw.qr _ hk
    have : j = k := by omega
    subst this
    rw [ho] at hx
    cases hx
    rw [h3, hxo]
theorem NamesOk.name {σ : Pl} {mn : List (ByteArray × Int)} (hw : Wf σ) {k : Nat} {o o' : PObj} (ho : σ.rows[k]? = some o) (h1 : okRow o' σ.files = true) (h2 : takenBy σ o'.name k = false) (h3 : o'.owner = o.owner) (h : NamesOk mn σ.rows) :
    NamesOk (if o'.name = bE then mdel mn o.name else mput (mdel mn o.name) o'.name (k : Int)) (σ.rows.set k o') := by
  have hw' := hw.name ho h1 h2 h3
  have base : ∀ s, s ≠ o'.name → mget (mdel mn o.name) s = if s = bE then none else (namedAt (σ.rows.set k o') s).map fun (k : Nat) => (k : Int) := fun s hso => by
    by_cases hs : s = bE
    · rw [if_pos hs, hs]
      by_cases hb : o.name = bE
      · rw [hb, mget_mdel_same h.1]
      · rw [mget_mdel_ne hb, h.2, if_pos rfl]
    · rw [if_neg hs]
      by_cases hn : s = o.name
      · rw [hn, mget_mdel_same h.1]
        rw [show namedAt (σ.rows.set k o') o.name = none from namedAt_none.2 fun j x hx hh => by
          rcases (set_get ho).1 hx with ⟨rfl, rfl⟩ | ⟨hj, hx⟩
          · exact hso (hn.trans hh.symm)
          · exact hj (hw.names j k x o hx ho hh (by rw [hh, ← hn]; exact hs))]
        rfl
      · rw [mget_mdel_ne (fun hh => hn hh.symm), h.2, if_neg hs]
        congr 1
        refine opt_ext fun j => ?_
        rw [namedAt_iff hw hs, namedAt_iff hw' hs]
        constructor
        · rintro ⟨x, hx, rfl⟩
          have hj : j ≠ k := fun hh => by subst hh; rw [ho] at hx; cases hx; exact hn rfl
          exact ⟨x, (set_get ho).2 (.inr ⟨hj, hx⟩), rfl⟩
        · rintro ⟨x, hx, rfl⟩
          rcases (set_get ho).1 hx with ⟨rfl, rfl⟩ | ⟨_, hx⟩
          · exact absurd rfl hso
          · exact ⟨x, hx, rfl⟩
  by_cases hne : o'.name = bE
  · rw [if_pos hne]
    refine ⟨mdel_nodup h.1, fun s => ?_⟩
    by_cases hs : s = o'.name
    · rw [hs, hne, if_pos rfl]
      by_cases hb : o.name = bE
      · rw [hb, mget_mdel_same h.1]
      · rw [mget_mdel_ne hb, h.2, if_pos rfl]
    · exact base s hs
  · rw [if_neg hne]
    refine ⟨mput_nodup (mdel_nodup h.1), fun s => ?_⟩
    by_cases hs : s = o'.name
    · rw [hs, mget_mput_same, if_neg hne, (namedAt_iff hw' hne).2 ⟨o', (set_get ho).2 (.inl ⟨rfl, rfl⟩), rfl⟩]
      rfl
    · rw [mget_mput_ne (fun hh => hs hh.symm)]
      exact base s hs
/-! ### Rows behind all others; the queue -/
theorem okDum {f : Int} (hf : 1 ≤ f) : okRow dum f = true := okRow_iff.2 ⟨rfl, rfl, by decide, by decide, by decide, by simp [dum]; omega⟩
theorem snoc_get {rows : List PObj} {o x : PObj} {j : Nat} : (rows ++ [o])[j]? = some x ↔ rows[j]? = some x ∨ (j = rows.length ∧ x = o) := by
  rcases Nat.lt_trichotomy j rows.length with h | h | h
  · rw [List.getElem?_append_left h]
    constructor
    · exact .inl
    · rintro (h1 | ⟨h1, _⟩)
      · exact h1
      · omega
  · subst h
    rw [List.getElem?_append_right (Nat.le_refl _)]
    simp
    exact eq_comm
  · rw [List.getElem?_eq_none (by simp; omega)]
    constructor
    · intro hh; cases hh
    · rintro (h1 | ⟨h1, _⟩)
      · have := (List.getElem?_eq_some_iff.1 h1).1; omega
      · omega
theorem Wf.more {σ : Pl} (hw : Wf σ) (hl : σ.rows.length < 65600) : Wf { σ with rows := σ.rows ++ [dum] } where
  fl := hw.fl
  len := by simp; omega
  row := fun j x hx => by
    rcases snoc_get.1 hx with hx | ⟨_, rfl⟩
    · exact hw.row j x hx
    · exact okDum hw.fl.1
  names := fun i j a b ha hb hab hne => by
    rcases snoc_get.1 ha with ha | ⟨rfl, rfl⟩
    · rcases snoc_get.1 hb with hb | ⟨rfl, rfl⟩
      · exact hw.names i j a b ha hb hab hne
      · exact absurd hab hne
    · exact absurd rfl hne
  owners := fun i j a b ha hb hab hne => by
    rcases snoc_get.1 ha with ha | ⟨rfl, rfl⟩
    · rcases snoc_get.1 hb with hb | ⟨rfl, rfl⟩
      · exact hw.owners i j a b ha hb hab hne
      · rw [hab] at hne; simp [dum] at hne
    · simp [dum] at hne
  nd := hw.nd
  qr := fun i hi => by
    obtain ⟨j, x, rfl, hx, hxo⟩ := hw.qr i hi
    exact ⟨j, x, rfl, snoc_get.2 (.inl hx), hxo⟩
theorem NamesOk.more {mn : List (ByteArray × Int)} {rows : List PObj} (h : NamesOk mn rows) : NamesOk mn (rows ++ [dum]) := by
  refine ⟨h.1, fun s => ?_⟩
  rw [h.2]
  by_cases hs : s = bE
  · rw [if_pos hs, if_pos hs]
  · rw [if_neg hs, if_neg hs]
    congr 1
    unfold namedAt
    rw [List.findIdx?_append]
    have : [dum].findIdx? (fun o => decide (o.name = s)) = none := by
      rw [findIdx_none]
      intro k x hx
      cases k with
      | zero => simp at hx; subst hx; exact decide_eq_false fun hh => hs hh.symm
      | succ k => simp at hx
    rw [this]
    simp
theorem OwnersOk.more {mo : List (Int × Int)} {rows : List PObj} (h : OwnersOk mo rows) : OwnersOk mo (rows ++ [dum]) := by
  refine ⟨h.1, fun f => ?_⟩
  rw [h.2]
  by_cases hf : f < 0
  · rw [if_pos hf, if_pos hf]
  · rw [if_neg hf, if_neg hf]
    congr 1
    unfold ownedAt
    rw [List.findIdx?_append]
    have : [dum].findIdx? (fun o => decide (o.owner = f)) = none := by
      rw [findIdx_none]
      intro k x hx
      cases k with
      | zero => simp at hx; subst hx; exact decide_eq_false fun hh => by simp [dum] at hh; omega
      | succ k => simp at hx
    rw [this]
    simp
theorem Wf.push {σ : Pl} (hw : Wf σ) {k : Nat} {o : PObj} (ho : σ.rows[k]? = some o) (h1 : o.owner = -1) (h2 : (k : Int) ∉ σ.queue) : Wf { σ with queue := σ.queue ++ [(k : Int)] } where
  fl := hw.fl
  len := hw.len
  row := hw.row
  names := hw.names
  owners := hw.owners
  nd := by
    rw [List.nodup_append]
    exact ⟨hw.nd, by simp, fun a ha b hb hh => by simp at hb; subst hb; subst hh; exact h2 ha⟩
  qr := fun i hi => by
    rcases List.mem_append.1 hi with hi | hi
    · exact hw.qr i hi
    · simp at hi; exact ⟨k, o, hi, ho, h1⟩
theorem Wf.pop {σ : Pl} (hw : Wf σ) {i : Int} {q : List Int} (hq : σ.queue = i :: q) : Wf { σ with queue := q } where
  fl := hw.fl
  len := hw.len
  row := hw.row
  names := hw.names
  owners := hw.owners
  nd := by have := hw.nd; rw [hq] at this; exact (List.nodup_cons.1 this).2
  qr := fun j hj => hw.qr j (by rw [hq]; exact List.mem_cons_of_mem _ hj)
theorem nodup_len : ∀ {n : Nat} {l : List Nat}, l.Nodup → (∀ x ∈ l, x < n) → l.length ≤ n
  | 0, l, _, h => by
    cases l with
    | nil => simp
    | cons x l => have := h x List.mem_cons_self; omega
  | n + 1, l, hn, h => by
    by_cases hm : n ∈ l
    · have h1 := nodup_len (n := n) (hn.erase n) (fun x hx => by
        have h2 := (hn.mem_erase_iff).1 hx
        have := h x h2.2
        have := h2.1
        omega)
      rw [List.length_erase_of_mem hm] at h1
      omega
    · have h1 := nodup_len (n := n) hn (fun x hx => by
        have := h x hx
        have : x ≠ n := fun hh => hm (hh ▸ hx)
        omega)
      omega
theorem Wf.queue_len {σ : Pl} (hw : Wf σ) : σ.queue.length ≤ σ.rows.length := by
  have h1 : (σ.queue.map Int.toNat).Nodup := by
    refine List.pairwise_map.2 (hw.nd.imp_of_mem fun {a b} ha hb hne => ?_)
    obtain ⟨k, _, rfl, _⟩ := hw.qr a ha
    obtain ⟨j, _, rfl, _⟩ := hw.qr b hb
    simp only [ne_eq, Int.natCast_inj, Int.toNat_natCast] at hne ⊢
    exact hne
  have h2 : σ.queue.map Int.toNat ⊆ List.range σ.rows.length := fun x hx => by
    obtain ⟨a, ha, rfl⟩ := List.mem_map.1 hx
    obtain ⟨k, o, rfl, ho, _⟩ := hw.qr a ha
    simpa using (List.getElem?_eq_some_iff.1 ho).1
  have := nodup_len h1 (fun x hx => List.mem_range.1 (h2 hx))
  simpa using this
theorem wf_new {f : Int} (hf : 1 ≤ f ∧ f ≤ 65536) : Wf ⟨f, [], []⟩ where
  fl := hf
  len := by simp
  row := fun k o h => by simp at h
  names := fun i j a b h => by simp at h
  owners := fun i j a b h => by simp at h
  nd := by simp
  qr := fun i h => by simp at h
theorem names_nil : NamesOk [] [] := ⟨by simp [keys], fun s => by split <;> rfl⟩
theorem owners_nil : OwnersOk [] [] := ⟨by simp [keys], fun s => by split <;> rfl⟩
end Go.Proofs.YtjmicpkinflofaaDoor.S
