/- Heaps, chunks of heaps, worlds that hold them: the ground of this session's walk. Generic over programs. -/
import Derived.StillTail
import Derived.Tactics
import Derived.Below
import Derived.KernelRfl
namespace Go.Proofs.YtjmicpkinflofaaDoor.S
open Go.RowKit
set_option linter.unusedVariables false
set_option linter.unusedSimpArgs false

/-- What lies at a place: a value (and whether it is frozen), or an object. -/
inductive Cell where
  | val (v : Value) (fr : Bool)
  | obj (o : Obj)
abbrev Heap := Nat → Nat → Option Cell
/-- What a world holds. -/
def wat (w : World) : Heap := fun b o =>
  match w.heap[b]? with
  | some (.cells c _ fr) => (c[o]?).map fun v => .val v (decide (fr.1 ≤ o) && decide (o < fr.2))
  | some x => if o = 0 then some (.obj x) else none
  | none => none
def Heap.emp : Heap := fun _ _ => none
def Heap.un (h k : Heap) : Heap := fun b o => match h b o with | some c => some c | none => k b o
def Heap.dj (h k : Heap) : Prop := ∀ b o, h b o = none ∨ k b o = none
def Heap.sub (h k : Heap) : Prop := ∀ b o c, h b o = some c → k b o = some c
abbrev Hp := Heap → Prop
def stars : List Hp → Hp
  | [] => fun h => h = Heap.emp
  | c :: L => fun h => ∃ h1 h2, Heap.dj h1 h2 ∧ h = Heap.un h1 h2 ∧ c h1 ∧ stars L h2
/-- What stays as it is: a part of the heap; the world at the beginning, all of whose blocks stay. -/
structure Fr where
  h : Heap
  W : World
def Sat (L : List Hp) (F : Fr) (w : World) : Prop :=
  ∃ h, stars L h ∧ Heap.dj h F.h ∧ Heap.sub h (wat w) ∧ Heap.sub F.h (wat w) ∧ (∀ b o c, h b o = some c → F.W.heap.size ≤ b) ∧ Below F.W.heap.size F.W w

section heaps
variable {h k l : Heap}
theorem Heap.ext' (hh : ∀ b o, h b o = k b o) : h = k := funext fun b => funext fun o => hh b o
theorem Heap.un_some {b o : Nat} {c : Cell} : Heap.un h k b o = some c ↔ h b o = some c ∨ (h b o = none ∧ k b o = some c) := by
  unfold Heap.un
  cases h b o <;> simp
theorem Heap.un_none {b o : Nat} : Heap.un h k b o = none ↔ h b o = none ∧ k b o = none := by
  unfold Heap.un
  cases h b o <;> simp
theorem Heap.un_left {b o : Nat} {c : Cell} (hh : h b o = some c) : Heap.un h k b o = some c := Heap.un_some.2 (.inl hh)
theorem Heap.un_right {b o : Nat} {c : Cell} (hd : Heap.dj h k) (hh : k b o = some c) : Heap.un h k b o = some c :=
  Heap.un_some.2 (.inr ⟨(by rcases hd b o with h1 | h1; exact h1; rw [hh] at h1; cases h1), hh⟩)
theorem Heap.dj_comm (hd : Heap.dj h k) : Heap.dj k h := fun b o => (hd b o).symm
theorem Heap.un_comm (hd : Heap.dj h k) : Heap.un h k = Heap.un k h := by
  refine Heap.ext' fun b o => ?_
  unfold Heap.un
  rcases hd b o with h1 | h1 <;> rw [h1]
  · cases k b o <;> rfl
  · cases h b o <;> rfl
theorem Heap.un_assoc : Heap.un (Heap.un h k) l = Heap.un h (Heap.un k l) := by
  refine Heap.ext' fun b o => ?_
  unfold Heap.un
  cases h b o <;> simp
theorem Heap.emp_un : Heap.un Heap.emp h = h := rfl
theorem Heap.un_emp : Heap.un h Heap.emp = h := by
  refine Heap.ext' fun b o => ?_
  unfold Heap.un
  cases h b o <;> rfl
theorem Heap.dj_un_left : Heap.dj (Heap.un h k) l ↔ Heap.dj h l ∧ Heap.dj k l := by
  constructor
  · intro hd
    refine ⟨fun b o => ?_, fun b o => ?_⟩
    · rcases hd b o with h1 | h1
      · exact .inl (Heap.un_none.1 h1).1
      · exact .inr h1
    · rcases hd b o with h1 | h1
      · exact .inl (Heap.un_none.1 h1).2
      · exact .inr h1
  · rintro ⟨h1, h2⟩ b o
    rcases h1 b o with h3 | h3
    · rcases h2 b o with h4 | h4
      · exact .inl (Heap.un_none.2 ⟨h3, h4⟩)
      · exact .inr h4
    · exact .inr h3
theorem Heap.dj_un_right : Heap.dj l (Heap.un h k) ↔ Heap.dj l h ∧ Heap.dj l k :=
  ⟨fun hd => let ⟨a, b⟩ := Heap.dj_un_left.1 (Heap.dj_comm hd); ⟨Heap.dj_comm a, Heap.dj_comm b⟩, fun ⟨a, b⟩ => Heap.dj_comm (Heap.dj_un_left.2 ⟨Heap.dj_comm a, Heap.dj_comm b⟩)⟩
theorem Heap.dj_emp : Heap.dj h Heap.emp := fun _ _ => .inr rfl
theorem Heap.emp_dj : Heap.dj Heap.emp h := fun _ _ => .inl rfl
theorem Heap.sub_un (h1 : Heap.sub h l) (h2 : Heap.sub k l) : Heap.sub (Heap.un h k) l := fun b o c hc => by
  rcases Heap.un_some.1 hc with h3 | ⟨_, h3⟩
  · exact h1 b o c h3
  · exact h2 b o c h3
theorem Heap.sub_left (hs : Heap.sub (Heap.un h k) l) : Heap.sub h l := fun b o c hc => hs b o c (Heap.un_left hc)
theorem Heap.sub_right (hd : Heap.dj h k) (hs : Heap.sub (Heap.un h k) l) : Heap.sub k l := fun b o c hc => hs b o c (Heap.un_right hd hc)
theorem Heap.sub_trans (h1 : Heap.sub h k) (h2 : Heap.sub k l) : Heap.sub h l := fun b o c hc => h2 b o c (h1 b o c hc)
theorem Heap.sub_refl : Heap.sub h h := fun _ _ _ hc => hc
theorem Heap.sub_un_left : Heap.sub h (Heap.un h k) := fun _ _ _ hc => Heap.un_left hc
theorem Heap.sub_un_right (hd : Heap.dj h k) : Heap.sub k (Heap.un h k) := fun _ _ _ hc => Heap.un_right hd hc
end heaps

/-! ### Lists of chunks -/
theorem stars_one {c : Hp} {h : Heap} : stars [c] h ↔ c h := by
  constructor
  · rintro ⟨h1, h2, _, rfl, hc, rfl⟩
    rwa [Heap.un_emp]
  · exact fun hc => ⟨h, Heap.emp, Heap.dj_emp, Heap.un_emp.symm, hc, rfl⟩
theorem stars_append {L M : List Hp} {h : Heap} : stars (L ++ M) h ↔ ∃ h1 h2, Heap.dj h1 h2 ∧ h = Heap.un h1 h2 ∧ stars L h1 ∧ stars M h2 := by
  induction L generalizing h with
  | nil =>
    constructor
    · exact fun hm => ⟨Heap.emp, h, Heap.emp_dj, rfl, rfl, hm⟩
    · rintro ⟨h1, h2, _, rfl, rfl, hm⟩
      exact hm
  | cons c L ih =>
    constructor
    · rintro ⟨h1, h2, hd, rfl, hc, hr⟩
      obtain ⟨h3, h4, hd2, rfl, hL, hM⟩ := ih.1 hr
      obtain ⟨d1, d2⟩ := Heap.dj_un_right.1 hd
      exact ⟨Heap.un h1 h3, h4, Heap.dj_un_left.2 ⟨d2, hd2⟩, Heap.un_assoc.symm, ⟨h1, h3, d1, rfl, hc, hL⟩, hM⟩
    · rintro ⟨h1, h2, hd, rfl, ⟨h3, h4, hd2, rfl, hc, hL⟩, hM⟩
      obtain ⟨d1, d2⟩ := Heap.dj_un_left.1 hd
      exact ⟨h3, Heap.un h4 h2, Heap.dj_un_right.2 ⟨hd2, d1⟩, Heap.un_assoc, hc, ih.2 ⟨h4, h2, d2, rfl, hL, hM⟩⟩
/-- c is a member of L, L' is the rest. -/
inductive Pick (c : Hp) : List Hp → List Hp → Prop
  | here {L : List Hp} : Pick c (c :: L) L
  | there {d : Hp} {L L' : List Hp} : Pick c L L' → Pick c (d :: L) (d :: L')
theorem Pick.stars {c : Hp} {L L' : List Hp} (hp : Pick c L L') : ∀ h, stars L h ↔ stars (c :: L') h := by
  induction hp with
  | here => exact fun h => Iff.rfl
  | @there d L L' _ ih =>
    intro h
    constructor
    · rintro ⟨h1, h2, hd, rfl, hc, hr⟩
      obtain ⟨h3, h4, hd2, rfl, hL, hM⟩ := (ih h2).1 hr
      obtain ⟨d1, d2⟩ := Heap.dj_un_right.1 hd
      refine ⟨h3, Heap.un h1 h4, Heap.dj_un_right.2 ⟨Heap.dj_comm d1, hd2⟩, ?_, hL, ⟨h1, h4, d2, rfl, hc, hM⟩⟩
      rw [← Heap.un_assoc, Heap.un_comm d1, Heap.un_assoc]
    · rintro ⟨h1, h2, hd, rfl, hc, ⟨h3, h4, hd2, rfl, hL, hM⟩⟩
      obtain ⟨d1, d2⟩ := Heap.dj_un_right.1 hd
      refine ⟨h3, Heap.un h1 h4, Heap.dj_un_right.2 ⟨Heap.dj_comm d1, hd2⟩, ?_, hL, (ih _).2 ⟨h1, h4, d2, rfl, hc, hM⟩⟩
      rw [← Heap.un_assoc, Heap.un_comm d1, Heap.un_assoc]
/-- All of M are members of L, the rest is L'. -/
inductive Picks : List Hp → List Hp → List Hp → Prop
  | nil {L : List Hp} : Picks [] L L
  | cons {c : Hp} {M L L' L'' : List Hp} : Pick c L L' → Picks M L' L'' → Picks (c :: M) L L''
theorem Picks.stars {M L L' : List Hp} (hp : Picks M L L') : ∀ h, stars L h ↔ stars (M ++ L') h := by
  induction hp with
  | nil => exact fun h => Iff.rfl
  | @cons c M L L' L'' h1 _ ih =>
    intro h
    rw [h1.stars h]
    constructor
    · rintro ⟨h1, h2, hd, rfl, hc, hr⟩
      exact ⟨h1, h2, hd, rfl, hc, (ih h2).1 hr⟩
    · rintro ⟨h1, h2, hd, rfl, hc, hr⟩
      exact ⟨h1, h2, hd, rfl, hc, (ih h2).2 hr⟩
/-- L holds at least M. -/
def LE (L M : List Hp) : Prop := ∀ h, stars L h → ∃ h', Heap.sub h' h ∧ stars M h'
theorem LE.refl (L : List Hp) : LE L L := fun h hl => ⟨h, Heap.sub_refl, hl⟩
theorem LE.trans {L M K : List Hp} (h1 : LE L M) (h2 : LE M K) : LE L K := fun h hl =>
  let ⟨h', hs, hm⟩ := h1 h hl
  let ⟨h'', hs2, hk⟩ := h2 h' hm
  ⟨h'', Heap.sub_trans hs2 hs, hk⟩
theorem Heap.dj_sub {h h' k : Heap} (hs : Heap.sub h' h) (hd : Heap.dj h k) : Heap.dj h' k := fun b o => by
  cases h1 : h' b o with
  | none => exact .inl rfl
  | some c =>
    rcases hd b o with h2 | h2
    · rw [hs b o c h1] at h2; cases h2
    · exact .inr h2
theorem LE.cons {c : Hp} {L M : List Hp} (hle : LE L M) : LE (c :: L) (c :: M) := by
  rintro h ⟨h1, h2, hd, rfl, hc, hr⟩
  obtain ⟨h3, hs, hm⟩ := hle h2 hr
  exact ⟨Heap.un h1 h3, fun b o x hx => by
    rcases Heap.un_some.1 hx with h4 | ⟨h5, h4⟩
    · exact Heap.un_left h4
    · exact Heap.un_some.2 (.inr ⟨h5, hs b o x h4⟩), h1, h3, Heap.dj_comm (Heap.dj_sub hs (Heap.dj_comm hd)), rfl, hc, hm⟩
theorem LE.head {c d : Hp} {L : List Hp} (hcd : ∀ h, c h → d h) : LE (c :: L) (d :: L) := by
  rintro h ⟨h1, h2, hd, rfl, hc, hr⟩
  exact ⟨_, Heap.sub_refl, h1, h2, hd, rfl, hcd _ hc, hr⟩
theorem LE.drop {c : Hp} {L : List Hp} : LE (c :: L) L := by
  rintro h ⟨h1, h2, hd, rfl, hc, hr⟩
  exact ⟨h2, Heap.sub_un_right hd, hr⟩
theorem LE.nil {L : List Hp} : LE L [] := fun h _ => ⟨Heap.emp, (fun _ _ _ hc => by cases hc), rfl⟩
theorem LE.pick {c : Hp} {L L' M : List Hp} (hp : Pick c L L') (hle : LE (c :: L') M) : LE L M := fun h hl => hle h ((hp.stars h).1 hl)
theorem LE.picks {M L L' K : List Hp} (hp : Picks M L L') (hle : LE (M ++ L') K) : LE L K := fun h hl => hle h ((hp.stars h).1 hl)
theorem LE.sub {M L L' : List Hp} (hp : Picks M L L') : LE L M := fun h hl => by
  obtain ⟨h1, h2, hd, rfl, hM, _⟩ := stars_append.1 ((hp.stars h).1 hl)
  exact ⟨h1, Heap.sub_un_left, hM⟩
theorem LE.both {c : Hp} {L L' M : List Hp} (hp : Pick c L L') (hle : LE L' M) : LE L (c :: M) := LE.pick hp (LE.cons hle)
theorem LE.append {L L' M M' : List Hp} (h1 : LE L L') (h2 : LE M M') : LE (L ++ M) (L' ++ M') := by
  intro h hl
  obtain ⟨a, b, hd, rfl, hL, hM⟩ := stars_append.1 hl
  obtain ⟨a', ha, hL'⟩ := h1 a hL
  obtain ⟨b', hb, hM'⟩ := h2 b hM
  refine ⟨Heap.un a' b', fun x y c hc => ?_, stars_append.2 ⟨a', b', Heap.dj_comm (Heap.dj_sub hb (Heap.dj_comm (Heap.dj_sub ha hd))), rfl, hL', hM'⟩⟩
  rcases Heap.un_some.1 hc with h4 | ⟨_, h4⟩
  · exact Heap.un_left (ha x y c h4)
  · exact Heap.un_right hd (hb x y c h4)

/-! ### Worlds -/
theorem Sat.le {L M : List Hp} {F : Fr} {w : World} (hs : Sat L F w) (hle : LE L M) : Sat M F w := by
  obtain ⟨h, hl, hd, h1, h2, h3, h4⟩ := hs
  obtain ⟨h', hs', hm⟩ := hle h hl
  exact ⟨h', hm, Heap.dj_sub hs' hd, Heap.sub_trans hs' h1, h2, fun b o c hc => h3 b o c (hs' b o c hc), h4⟩
theorem wat_lt {w : World} {b o : Nat} {c : Cell} (h : wat w b o = some c) : b < w.heap.size := by
  unfold wat at h
  rcases Nat.lt_or_ge b w.heap.size with h1 | h1
  · exact h1
  · rw [Array.getElem?_eq_none h1] at h; cases h
theorem wat_block {w w' : World} {b : Nat} (h : w'.heap[b]? = w.heap[b]?) (o : Nat) : wat w' b o = wat w b o := by
  unfold wat; rw [h]
theorem wat_cell {w : World} {b o : Nat} {v : Value} {fr : Bool} (h : wat w b o = some (.val v fr)) : w.cell? ⟨b, o, none⟩ = some v ∧ w.frozen? ⟨b, o, none⟩ = fr := by
  unfold wat at h
  unfold World.cell? World.frozen?
  split at h
  · rename_i c t fr' hb
    rw [hb]
    cases hc : c[o]? with
    | none => rw [hc] at h; cases h
    | some u =>
      rw [hc] at h
      simp only [Option.map_some, Option.some.injEq, Cell.val.injEq] at h
      obtain ⟨rfl, rfl⟩ := h
      exact ⟨by simpa using hc, rfl⟩
  · split at h <;> cases h
  · cases h
theorem wat_obj {w : World} {b o : Nat} {x : Obj} (h : wat w b o = some (.obj x)) : w.heap[b]? = some x ∧ (∀ c t fr, x ≠ .cells c t fr) := by
  unfold wat at h
  split at h
  · rename_i c t fr' hb
    cases hc : c[o]? <;> rw [hc] at h <;> simp at h
  · rename_i y hne hb
    split at h
    · simp only [Option.some.injEq, Cell.obj.injEq] at h
      subst h
      exact ⟨hb, fun c t fr hh => hne c t fr hh⟩
    · cases h
  · cases h
/-- A step that leaves all blocks that there are, keeps all. -/
theorem Sat.below {L : List Hp} {F : Fr} {w w' : World} (hs : Sat L F w) (hb : Below w.heap.size w w') : Sat L F w' := by
  obtain ⟨h, hl, hd, h1, h2, h3, h4⟩ := hs
  have key : ∀ b o c, wat w b o = some c → wat w' b o = some c := fun b o c hc => by
    rw [wat_block (hb.block b (wat_lt hc))]; exact hc
  exact ⟨h, hl, hd, fun b o c hc => key b o c (h1 b o c hc), fun b o c hc => key b o c (h2 b o c hc), h3, h4.trans (hb.mono h4.size)⟩
theorem Sat.drew {L : List Hp} {F : Fr} {w : World} (hs : Sat L F w) : Sat L F { w with drawn := w.drawn + 1 } :=
  hs.below (Below.drew (Below.refl _ _))
theorem wat_alloc_new {w : World} {c : Array Value} {t : TypeId} {o : Nat} : wat (w.alloc (.cells c t)) w.heap.size o = (c[o]?).map fun v => .val v false := by
  unfold wat World.alloc
  simp only [Array.getElem?_push_size]
  cases c[o]? <;> simp
theorem wat_alloc_obj {w : World} {x : Obj} {o : Nat} (hx : ∀ c t fr, x ≠ .cells c t fr) : wat (w.alloc x) w.heap.size o = if o = 0 then some (.obj x) else none := by
  unfold wat World.alloc
  simp only [Array.getElem?_push_size]
theorem wat_alloc_old {w : World} {x : Obj} {b o : Nat} (hb : b < w.heap.size) : wat (w.alloc x) b o = wat w b o :=
  wat_block (by show (w.heap.push x)[b]? = _; rw [Array.getElem?_push, if_neg (by omega)]) o
/-- A new block. -/
theorem Sat.alloc {L : List Hp} {F : Fr} {w : World} (hs : Sat L F w) (x : Obj) {c : Hp} (hc : c (fun b o => if b = w.heap.size then wat (w.alloc x) b o else none)) : Sat (c :: L) F (w.alloc x) := by
  obtain ⟨h, hl, hd, h1, h2, h3, h4⟩ := hs
  have old : ∀ {k : Heap}, Heap.sub k (wat w) → ∀ o, k w.heap.size o = none := fun {k} hk o => by
    cases hh : k w.heap.size o with
    | none => rfl
    | some c => exact absurd (wat_lt (hk _ _ _ hh)) (by omega)
  have keep : ∀ {k : Heap}, Heap.sub k (wat w) → Heap.sub k (wat (w.alloc x)) := fun {k} hk b o c hc => by
    rw [wat_alloc_old (wat_lt (hk _ _ _ hc))]; exact hk _ _ _ hc
  refine ⟨Heap.un (fun b o => if b = w.heap.size then wat (w.alloc x) b o else none) h, ⟨_, h, fun b o => ?_, rfl, hc, hl⟩, Heap.dj_un_left.2 ⟨fun b o => ?_, hd⟩, Heap.sub_un (fun b o c hc => ?_) (keep h1), keep h2, fun b o c hc => ?_, h4.alloc h4.size x⟩
  · by_cases hb : b = w.heap.size
    · subst hb; exact .inr (old h1 o)
    · exact .inl (if_neg hb)
  · by_cases hb : b = w.heap.size
    · subst hb; exact .inr (old h2 o)
    · exact .inl (if_neg hb)
  · by_cases hb : b = w.heap.size
    · rw [if_pos hb] at hc; exact hc
    · rw [if_neg hb] at hc; cases hc
  · rcases Heap.un_some.1 hc with h5 | ⟨_, h5⟩
    · by_cases hb : b = w.heap.size
      · subst hb; exact h4.size
      · rw [if_neg hb] at h5; cases h5
    · exact h3 b o c h5
end Go.Proofs.YtjmicpkinflofaaDoor.S
