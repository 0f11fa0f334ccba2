/- pool: what Load comes to, plainly -/
import Derived.Test.YtjmicpkinflofaaDoorPW
namespace Go.Proofs.YtjmicpkinflofaaDoor.S
open Go.RowKit
set_option linter.unusedVariables false
set_option linter.unusedSimpArgs false
set_option maxRecDepth 100000
set_option maxHeartbeats 4000000
def dummies (rows : List PObj) : Nat := (rows.filter fun o => decide (o.owner < 0)).length
def Settled (f : Int) (objs : List PObj) (q : List Int) : Prop := Wf ⟨f, objs, q⟩ ∧ q.length = dummies objs
open Classical in
noncomputable def loadF (objs : List PObj) (q : List Int) (f s : Int) : Option Pl × Int :=
  if badSize f s then (none, 1) else if (objs.length : Int) = f + s ∧ Settled f objs q then (some ⟨f, objs, q⟩, 0) else (none, 130)
theorem loadF_bad {objs : List PObj} {q : List Int} {f s : Int} (h : badSize f s = true) : loadF objs q f s = (none, 1) := by unfold loadF; rw [if_pos h]
theorem loadF_no {objs : List PObj} {q : List Int} {f s : Int} (h : badSize f s = false) (h2 : ¬ ((objs.length : Int) = f + s ∧ Settled f objs q)) : loadF objs q f s = (none, 130) := by unfold loadF; rw [h, if_neg (by simp), if_neg h2]
theorem loadF_yes {objs : List PObj} {q : List Int} {f s : Int} (h : badSize f s = false) (h1 : (objs.length : Int) = f + s) (h2 : Settled f objs q) : loadF objs q f s = (some ⟨f, objs, q⟩, 0) := by unfold loadF; rw [h, if_neg (by simp), if_pos ⟨h1, h2⟩]
theorem size_ok {f s : Int} (h : badSize f s = false) : 1 ≤ f ∧ f ≤ 65536 ∧ 1 ≤ s ∧ s ≤ 64 := by
  simp [badSize] at h; omega
/-- The rows when k of them are laid. -/
def laidR (objs : List PObj) (k : Nat) : List PObj := objs.take k ++ List.replicate (objs.length - k) dum
theorem laidR_len {objs : List PObj} {k : Nat} (hk : k ≤ objs.length) : (laidR objs k).length = objs.length := by simp [laidR]; omega
theorem laidR_get {objs : List PObj} {k j : Nat} {x : PObj} (hk : k ≤ objs.length) : (laidR objs k)[j]? = some x ↔ (j < k ∧ objs[j]? = some x) ∨ (k ≤ j ∧ j < objs.length ∧ x = dum) := by
  unfold laidR
  by_cases hj : j < k
  · rw [List.getElem?_append_left (by simp; omega), List.getElem?_take, if_pos hj]
    constructor
    · exact fun h => .inl ⟨hj, h⟩
    · rintro (⟨_, h⟩ | ⟨h, _⟩)
      · exact h
      · omega
  · rw [List.getElem?_append_right (by simp; omega), List.getElem?_replicate]
    constructor
    · intro h
      split at h
      · rename_i hl
        simp only [List.length_take] at hl
        exact .inr ⟨by omega, by omega, (Option.some.inj h).symm⟩
      · cases h
    · rintro (⟨h, _⟩ | ⟨h1, h2, rfl⟩)
      · omega
      · rw [if_pos (by simp; omega)]
theorem laidR_set {objs : List PObj} {k : Nat} {o : PObj} (ho : objs[k]? = some o) : (laidR objs k).set k o = laidR objs (k + 1) := by
  have hk := (List.getElem?_eq_some_iff.1 ho).1
  apply List.ext_getElem?
  intro j
  by_cases hj : j < objs.length
  · rw [List.getElem?_set]
    by_cases hjk : k = j
    · subst hjk
      rw [if_pos rfl, if_pos (by rw [laidR_len (by omega)]; exact hk)]
      exact ((laidR_get (by omega)).2 (.inl ⟨by omega, ho⟩)).symm
    · rw [if_neg hjk]
      by_cases hlt : j < k
      · have e1 := (laidR_get (j := j) (x := objs[j]) (show k ≤ objs.length by omega)).2 (.inl ⟨hlt, List.getElem?_eq_getElem hj⟩)
        have e2 := (laidR_get (j := j) (x := objs[j]) (show k + 1 ≤ objs.length by omega)).2 (.inl ⟨by omega, List.getElem?_eq_getElem hj⟩)
        rw [e1, e2]
      · have e1 := (laidR_get (j := j) (x := dum) (show k ≤ objs.length by omega)).2 (.inr ⟨by omega, hj, rfl⟩)
        have e2 := (laidR_get (j := j) (x := dum) (show k + 1 ≤ objs.length by omega)).2 (.inr ⟨by omega, hj, rfl⟩)
        rw [e1, e2]
  · rw [List.getElem?_eq_none (by rw [List.length_set, laidR_len (by omega)]; omega), List.getElem?_eq_none (by rw [laidR_len (by omega)]; omega)]
theorem laidR_all {objs : List PObj} : laidR objs objs.length = objs := by simp [laidR]
section
variable {f : Int} {objs : List PObj} {q : List Int} {k : Nat} {o : PObj}
theorem row_at (ho : objs[k]? = some o) (rows : List PObj) (hr : rows.length = objs.length) (Q : List Int) : Pl.bad ⟨f, rows, Q⟩ k = false := by
  have := (List.getElem?_eq_some_iff.1 ho).1
  simp [Pl.bad]; omega
theorem laid_row (ho : objs[k]? = some o) (Q : List Int) : Pl.row ⟨f, laidR objs k, Q⟩ k = dum := by
  have hk := (List.getElem?_eq_some_iff.1 ho).1
  simp only [Pl.row, Int.toNat_natCast, List.getD_eq_getElem?_getD, (laidR_get (j := k) (x := dum) (show k ≤ objs.length by omega)).2 (.inr ⟨by omega, hk, rfl⟩)]
  rfl
theorem set_row {rows : List PObj} {x : PObj} (hk : k < rows.length) (Q : List Int) : Pl.row ⟨f, rows.set k x, Q⟩ k = x := by
  simp [Pl.row, List.getD_eq_getElem?_getD, hk]
/-- The next row's name, tag and bucket. -/
theorem lay_set (hf : 1 ≤ f) (ho : objs[k]? = some o) :
    (setF ⟨f, laidR objs k, []⟩ k o.name o.tag o.bucket = (0, ⟨f, (laidR objs k).set k ⟨o.name, o.tag, o.bucket, -1⟩, []⟩)) ∨ ((setF ⟨f, laidR objs k, []⟩ k o.name o.tag o.bucket).1 ≠ 0 ∧ ¬ Wf ⟨f, objs, q⟩) := by
  have hk := (List.getElem?_eq_some_iff.1 ho).1
  have hb := row_at (f := f) ho (laidR objs k) (laidR_len (by omega)) []
  unfold setF
  rw [hb, laid_row ho, if_neg (by simp)]
  by_cases h1 : okRow ⟨o.name, o.tag, o.bucket, dum.owner⟩ f = true
  · rw [h1, if_neg (by simp)]
    cases h2 : takenBy ⟨f, laidR objs k, []⟩ o.name k with
    | false => left; rfl
    | true =>
      right
      refine ⟨by simp, fun hw => ?_⟩
      unfold takenBy at h2
      split at h2
      · cases h2
      · rename_i hne
        cases h3 : namedAt (laidR objs k) o.name with
        | none => rw [h3] at h2; cases h2
        | some j =>
          rw [h3] at h2
          obtain ⟨x, hx, hxn, _⟩ := findIdx_some h3
          rcases (laidR_get (by omega)).1 hx with ⟨hj, hx⟩ | ⟨_, _, rfl⟩
          · have := hw.names j k x o hx ho (by simpa using hxn) (by have : x.name = o.name := by simpa using hxn
                                                                    rw [this]; exact hne)
            omega
          · simp at hxn
            exact hne hxn.symm
  · right
    refine ⟨by simp [h1], fun hw => h1 ?_⟩
    have := okRow_iff.1 (hw.row k o ho)
    exact okRow_iff.2 ⟨this.1, this.2.1, this.2.2.1, this.2.2.2.1, by simp [dum], by simp [dum]; omega⟩
theorem lay_assign (hf : 1 ≤ f) (ho : objs[k]? = some o) (hne : o.owner ≠ -1) :
    (assignF ⟨f, (laidR objs k).set k ⟨o.name, o.tag, o.bucket, -1⟩, []⟩ k o.owner = (0, ⟨f, laidR objs (k + 1), []⟩)) ∨ ((assignF ⟨f, (laidR objs k).set k ⟨o.name, o.tag, o.bucket, -1⟩, []⟩ k o.owner).1 ≠ 0 ∧ ¬ Wf ⟨f, objs, q⟩) := by
  have hk := (List.getElem?_eq_some_iff.1 ho).1
  have hl : (laidR objs k).length = objs.length := laidR_len (by omega)
  have hb := row_at (f := f) ho ((laidR objs k).set k ⟨o.name, o.tag, o.bucket, -1⟩) (by simp [hl]) []
  unfold assignF
  rw [hb, if_neg (by simp)]
  by_cases h1 : o.owner < 0 ∨ f ≤ o.owner
  · rw [if_pos h1]
    right
    refine ⟨by simp, fun hw => ?_⟩
    have := hw.owner ho
    dsimp only at this
    omega
  · rw [if_neg h1, set_row (by omega)]
    cases h2 : ownedAt ((laidR objs k).set k ⟨o.name, o.tag, o.bucket, -1⟩) o.owner with
    | none =>
      left
      rw [if_neg (by simp)]
      simp only [Pl.set, Int.toNat_natCast, List.set_set]
      rw [laidR_set ho]
    | some j =>
      right
      rw [if_pos (by simp)]
      refine ⟨by simp, fun hw => ?_⟩
      obtain ⟨x, hx, hxo, _⟩ := findIdx_some h2
      have hxo : x.owner = o.owner := by simpa using hxo
      rw [List.getElem?_set] at hx
      by_cases hkj : k = j
      · subst hkj
        rw [if_pos rfl, if_pos (by omega)] at hx
        cases hx
        simp at hxo
        omega
      · rw [if_neg hkj] at hx
        rcases (laidR_get (by omega)).1 hx with ⟨hj, hx⟩ | ⟨_, _, rfl⟩
        · have := hw.owners j k x o hx ho hxo (by omega)
          omega
        · simp [dum] at hxo; omega
theorem lay_keep (ho : objs[k]? = some o) (he : o.owner = -1) : (laidR objs k).set k ⟨o.name, o.tag, o.bucket, -1⟩ = laidR objs (k + 1) := by
  rw [← laidR_set ho, ← he]
theorem lay_push {i : Int} (hq : q[k]? = some i) :
    (pushF ⟨f, objs, q.take k⟩ i = (0, ⟨f, objs, q.take (k + 1)⟩)) ∨ ((pushF ⟨f, objs, q.take k⟩ i).1 ≠ 0 ∧ ¬ Wf ⟨f, objs, q⟩) := by
  unfold pushF
  cases hb : Pl.bad ⟨f, objs, q.take k⟩ i with
  | true =>
    right
    refine ⟨by simp, fun hw => ?_⟩
    obtain ⟨j, x, rfl, hx, _⟩ := hw.qr i (List.mem_of_getElem? hq)
    have := row_at (f := f) hx objs rfl (q.take k)
    rw [this] at hb
    cases hb
  | false =>
    rw [if_neg (by simp)]
    by_cases h1 : 0 ≤ (Pl.row ⟨f, objs, q.take k⟩ i).owner ∨ i ∈ q.take k
    · right
      rw [if_pos h1]
      refine ⟨by simp, fun hw => ?_⟩
      rcases h1 with h1 | h1
      · obtain ⟨j, x, rfl, hx, hxo⟩ := hw.qr i (List.mem_of_getElem? hq)
        simp only [Pl.row, Int.toNat_natCast, List.getD_eq_getElem?_getD] at h1
        dsimp only at hx
        rw [hx] at h1
        simp only [Option.getD_some] at h1
        omega
      · obtain ⟨j, hj⟩ := List.mem_iff_getElem?.1 h1
        rw [List.getElem?_take] at hj
        split at hj
        · rename_i hlt
          have hn : q.Nodup := hw.nd
          obtain ⟨a1, a2⟩ := List.getElem?_eq_some_iff.1 hj
          obtain ⟨b1, b2⟩ := List.getElem?_eq_some_iff.1 hq
          exact (List.pairwise_iff_getElem.1 hn) j k a1 b1 hlt (by rw [a2, b2])
        · cases hj
    · left
      rw [if_neg h1, List.take_add_one, hq]
      rfl
theorem nodup_sub_len {α : Type} [DecidableEq α] : ∀ {l m : List α}, l.Nodup → (∀ x ∈ l, x ∈ m) → l.length ≤ m.length
  | [], m, _, _ => by simp
  | x :: l, m, hn, hs => by
    have h1 := List.nodup_cons.1 hn
    have h2 := nodup_sub_len (l := l) (m := m.erase x) h1.2 (fun y hy => (List.mem_erase_of_ne (fun (hh : y = x) => h1.1 (hh ▸ hy))).2 (hs y (List.mem_cons_of_mem _ hy)))
    have h3 := hs x List.mem_cons_self
    rw [List.length_erase_of_mem h3] at h2
    have := List.length_pos_of_mem h3
    simp only [List.length_cons]
    omega
theorem owners_len {σ : Pl} {mo : List (Int × Int)} (hw : Wf σ) (h : OwnersOk mo σ.rows) : mo.length + dummies σ.rows = σ.rows.length := by
  have h1 : mo.length = (σ.rows.filter fun o => !decide (o.owner < 0)).length := by
    have hk : (keys mo).length = mo.length := by simp [keys]
    have hm : ∀ x, x ∈ keys mo ↔ x ∈ (σ.rows.filter fun o => !decide (o.owner < 0)).map (·.owner) := fun x => by
      have e1 : x ∈ keys mo ↔ mget mo x ≠ none := by rw [ne_eq, mget_none]; simp
      rw [e1, h.2]
      simp only [List.mem_map, List.mem_filter, Bool.not_eq_true', decide_eq_false_iff_not]
      by_cases hx : x < 0
      · rw [if_pos hx]
        simp only [ne_eq, not_true_eq_false, false_iff]
        rintro ⟨o, ⟨_, h2⟩, rfl⟩
        exact h2 hx
      · rw [if_neg hx]
        constructor
        · intro h2
          cases h3 : ownedAt σ.rows x with
          | none => rw [h3] at h2; exact absurd rfl h2
          | some j =>
            obtain ⟨o, ho, rfl⟩ := (ownedAt_iff hw (by omega)).1 h3
            exact ⟨o, ⟨List.mem_of_getElem? ho, hx⟩, rfl⟩
        · rintro ⟨o, ⟨h2, _⟩, rfl⟩
          obtain ⟨j, hj⟩ := List.mem_iff_getElem?.1 h2
          rw [(ownedAt_iff hw (by omega)).2 ⟨o, hj, rfl⟩]
          simp
    have hn : ((σ.rows.filter fun o => !decide (o.owner < 0)).map (·.owner)).Nodup := by
      have key : ∀ (l : List PObj), (∀ (i j : Nat) a b, l[i]? = some a → l[j]? = some b → a.owner = b.owner → 0 ≤ a.owner → i = j) → ((l.filter fun o => !decide (o.owner < 0)).map (·.owner)).Nodup := by
        intro l
        induction l with
        | nil => intro _; simp
        | cons a l ih =>
          intro hu
          have ih' := ih (fun i j x y hx hy hxy h0 => by
            have := hu (i + 1) (j + 1) x y (by simpa using hx) (by simpa using hy) hxy h0
            omega)
          rw [List.filter_cons]
          split
          · rename_i ha
            simp only [Bool.not_eq_true', decide_eq_false_iff_not] at ha
            rw [List.map_cons, List.nodup_cons]
            refine ⟨fun hmem => ?_, ih'⟩
            obtain ⟨b, hb, hbo⟩ := List.mem_map.1 hmem
            obtain ⟨j, hj⟩ := List.mem_iff_getElem?.1 (List.mem_filter.1 hb).1
            have := hu 0 (j + 1) a b rfl (by simpa using hj) hbo.symm (by omega)
            omega
          · exact ih'
      exact key _ hw.owners
    have a1 := nodup_sub_len h.1 (fun x hx => (hm x).1 hx)
    have a2 := nodup_sub_len hn (fun x hx => (hm x).2 hx)
    simp only [List.length_map] at a1 a2
    omega
  rw [h1]
  unfold dummies
  have key : ∀ (l : List PObj), (l.filter fun o => !decide (o.owner < 0)).length + (l.filter fun o => decide (o.owner < 0)).length = l.length := by
    intro l
    induction l with
    | nil => rfl
    | cons a l ih =>
      rw [List.filter_cons, List.filter_cons]
      by_cases ha : a.owner < 0 <;> simp [ha] <;> omega
  exact key _
end
end Go.Proofs.YtjmicpkinflofaaDoor.S
