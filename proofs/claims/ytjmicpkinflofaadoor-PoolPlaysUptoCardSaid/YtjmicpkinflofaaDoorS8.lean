/- The walk: maps. Generic over programs. -/
import Derived.Test.YtjmicpkinflofaaDoorS7
namespace Go.Proofs.YtjmicpkinflofaaDoor.S
open Go.RowKit
set_option linter.unusedVariables false
set_option linter.unusedSimpArgs false

/-! ### Maps as lists of pairs, each key once, in the order in which the keys came -/
section lists
variable {κ β : Type} [DecidableEq κ]
def mget : List (κ × β) → κ → Option β
  | [], _ => none
  | (q, x) :: m, k => if q = k then some x else mget m k
def mput : List (κ × β) → κ → β → List (κ × β)
  | [], k, v => [(k, v)]
  | (q, x) :: m, k, v => if q = k then (k, v) :: m else (q, x) :: mput m k v
def mdel : List (κ × β) → κ → List (κ × β)
  | [], _ => []
  | (q, x) :: m, k => if q = k then m else (q, x) :: mdel m k
def keys (m : List (κ × β)) : List κ := m.map (·.1)
theorem mget_none {m : List (κ × β)} {k : κ} : mget m k = none ↔ k ∉ keys m := by
  induction m with
  | nil => simp [mget, keys]
  | cons p m ih =>
    obtain ⟨q, x⟩ := p
    simp only [mget, keys, List.map_cons, List.mem_cons, not_or]
    by_cases h : q = k
    · simp [h]
    · rw [if_neg h, ih]
      simp only [keys]
      constructor
      · exact fun h2 => ⟨fun h3 => h h3.symm, h2⟩
      · exact fun h2 => h2.2
theorem mput_new {m : List (κ × β)} {k : κ} {v : β} (h : mget m k = none) : mput m k v = m ++ [(k, v)] := by
  induction m with
  | nil => rfl
  | cons p m ih =>
    obtain ⟨q, x⟩ := p
    simp only [mget] at h
    split at h
    · cases h
    · rename_i hq; simp only [mput, if_neg hq, ih h, List.cons_append]
theorem mdel_none {m : List (κ × β)} {k : κ} (h : mget m k = none) : mdel m k = m := by
  induction m with
  | nil => rfl
  | cons p m ih =>
    obtain ⟨q, x⟩ := p
    simp only [mget] at h
    split at h
    · cases h
    · rename_i hq; simp only [mdel, if_neg hq, ih h]
theorem keys_mput_old {m : List (κ × β)} {k : κ} {v x : β} (h : mget m k = some x) : keys (mput m k v) = keys m := by
  induction m with
  | nil => cases h
  | cons p m ih =>
    obtain ⟨q, y⟩ := p
    simp only [mget] at h
    by_cases hq : q = k
    · simp [mput, keys, hq]
    · rw [if_neg hq] at h
      simp only [mput, if_neg hq, keys, List.map_cons, List.cons.injEq, true_and]
      exact ih h
theorem keys_mdel_sub {m : List (κ × β)} {k : κ} : (keys (mdel m k)).Sublist (keys m) := by
  induction m with
  | nil => exact List.Sublist.refl _
  | cons p m ih =>
    obtain ⟨q, y⟩ := p
    by_cases hq : q = k
    · simp only [mdel, if_pos hq, keys, List.map_cons]
      exact List.sublist_cons_self _ _
    · simp only [mdel, if_neg hq, keys, List.map_cons]
      exact List.Sublist.cons_cons _ ih
theorem mput_nodup {m : List (κ × β)} {k : κ} {v : β} (h : (keys m).Nodup) : (keys (mput m k v)).Nodup := by
  cases hg : mget m k with
  | none =>
    rw [mput_new hg]
    unfold keys at *
    rw [List.map_append, List.nodup_append]
    refine ⟨h, by simp, ?_⟩
    intro a ha b hb
    simp at hb
    subst hb
    have := mget_none.1 hg
    intro hh
    subst hh
    exact this ha
  | some x => rw [keys_mput_old hg]; exact h
theorem mdel_nodup {m : List (κ × β)} {k : κ} (h : (keys m).Nodup) : (keys (mdel m k)).Nodup := h.sublist keys_mdel_sub
theorem mget_mput_same {m : List (κ × β)} {k : κ} {v : β} : mget (mput m k v) k = some v := by
  induction m with
  | nil => simp [mput, mget]
  | cons p m ih =>
    obtain ⟨q, x⟩ := p
    by_cases h : q = k
    · simp [mput, mget, h]
    · simp only [mput, if_neg h, mget]; exact ih
theorem mget_mput_ne {m : List (κ × β)} {k k' : κ} {v : β} (hne : k ≠ k') : mget (mput m k v) k' = mget m k' := by
  induction m with
  | nil => simp [mput, mget, hne]
  | cons p m ih =>
    obtain ⟨q, x⟩ := p
    by_cases h : q = k
    · subst h; simp [mput, mget, hne]
    · simp only [mput, if_neg h, mget, ih]
theorem mget_mdel_ne {m : List (κ × β)} {k k' : κ} (hne : k ≠ k') : mget (mdel m k) k' = mget m k' := by
  induction m with
  | nil => simp [mdel]
  | cons p m ih =>
    obtain ⟨q, x⟩ := p
    by_cases h : q = k
    · subst h; simp [mdel, mget, hne]
    · simp only [mdel, if_neg h, mget, ih]
theorem mget_mdel_same {m : List (κ × β)} {k : κ} (h : (keys m).Nodup) : mget (mdel m k) k = none := by
  induction m with
  | nil => simp [mdel, mget]
  | cons p m ih =>
    obtain ⟨q, x⟩ := p
    simp only [keys, List.map_cons, List.nodup_cons] at h
    by_cases hq : q = k
    · subst hq
      simp only [mdel, if_pos trivial]
      exact mget_none.2 h.1
    · simp only [mdel, if_neg hq, mget]
      exact ih h.2
theorem length_mput_old {m : List (κ × β)} {k : κ} {v x : β} (h : mget m k = some x) : (mput m k v).length = m.length := by
  have := congrArg List.length (keys_mput_old (v := v) h)
  simpa [keys] using this
theorem length_mdel_old {m : List (κ × β)} {k : κ} {x : β} (h : mget m k = some x) : (mdel m k).length + 1 = m.length := by
  induction m with
  | nil => cases h
  | cons p m ih =>
    obtain ⟨q, y⟩ := p
    simp only [mget] at h
    by_cases hq : q = k
    · simp [mdel, hq]
    · rw [if_neg hq] at h
      simp only [mdel, if_neg hq, List.length_cons, ih h]
end lists
theorem bbeq (a b : ByteArray) : (a == b) = decide (a = b) := by
  have h : (a == b) = (a.data == b.data) := by
    show ByteArray.beq a b = _
    unfold ByteArray.beq
    simp
  rw [h]
  by_cases hh : a = b
  · subst hh; simp
  · rw [decide_eq_false hh]
    cases a; cases b
    simp at hh ⊢
    exact hh
theorem eraseIdx_map' {α β : Type} (f : α → β) (l : List α) (i : Nat) : (l.eraseIdx i).map f = (l.map f).eraseIdx i := by
  induction l generalizing i with
  | nil => simp
  | cons a l ih => cases i <;> simp [ih]
/-! ### The chunk of a map -/
def single (r : Nat) (x : Obj) : Heap := fun b o => if b = r ∧ o = 0 then some (.obj x) else none
structure MapOf {κ β : Type} (ke : κ → Value) (ve : β → Value) (m : List (κ × β)) (es : Array MapEntry) (clk : Nat) : Prop where
  kv : es.toList.map (fun e => (e.key, e.val)) = m.map (fun p => (ke p.1, ve p.2))
  nodup : (m.map (·.1)).Nodup
  born : (es.toList.map (·.born)).Nodup
  clk : ∀ e ∈ es, e.born < clk
def mapR {κ β : Type} (ke : κ → Value) (ve : β → Value) (r : Nat) (m : List (κ × β)) : Hp := fun h => ∃ es clk, h = single r (.map es clk) ∧ MapOf ke ve m es clk
/-- Keys of a kind that is sought by its bytes. -/
class KeyK (P : Program) (kt : TypeId) {κ : Type} (ke : κ → Value) : Prop where
  inj : ∀ {a b : κ}, ke a = ke b → a = b
  check : ∀ (b : Bool) (a : κ) w, (Instr.checkKey b 10000 kt (ke a)).run P w = .ok () w
  find : ∀ [DecidableEq κ] (k : κ) (es : List MapEntry) (w : World), (∀ e ∈ es, ∃ a, e.key = ke a) → ∃ r, (Instr.findKey kt (ke k) es).run P w = .ok r w ∧
    (match r with | none => ∀ e ∈ es, e.key ≠ ke k | some (i, v) => ∃ e, es[i]? = some e ∧ e.key = ke k ∧ e.val = v ∧ ∀ j e', j < i → es[j]? = some e' → e'.key ≠ ke k)
  stays : ∀ (a : κ) w, (Instr.keyThatStays (ke a) (ke a)).run P w = .ok (ke a) w
theorem findNow_spec {κ : Type} {ke : κ → Value} {d : TypeDesc} (k : κ) (hs : ∀ a b : κ, Instr.sameNow d (ke a) (ke b) = some (@decide (ke a = ke b) (Classical.propDecidable _))) : ∀ (es : List MapEntry) (i : Nat), (∀ e ∈ es, ∃ a, e.key = ke a) →
    ∃ r, Instr.findNow d (ke k) es i = some r ∧ (match r with | none => ∀ e ∈ es, e.key ≠ ke k | some (j, v) => ∃ l e, j = i + l ∧ es[l]? = some e ∧ e.key = ke k ∧ e.val = v ∧ ∀ j e', j < l → es[j]? = some e' → e'.key ≠ ke k)
  | [], i, _ => ⟨none, rfl, fun e he => by cases he⟩
  | e :: es, i, h => by
    obtain ⟨a, ha⟩ := h e List.mem_cons_self
    by_cases hk : ke k = ke a
    · refine ⟨some (i, e.val), ?_, 0, e, rfl, rfl, by rw [ha, hk], rfl, fun j e' hj => by omega⟩
      have h1 := hs k a
      rw [@decide_eq_true _ (Classical.propDecidable _) hk] at h1
      simp only [Instr.findNow, ha, h1]
    · obtain ⟨r, hr, hp⟩ := findNow_spec k hs es (i + 1) (fun e' he' => h e' (List.mem_cons_of_mem _ he'))
      refine ⟨r, ?_, ?_⟩
      · have h1 := hs k a
        rw [@decide_eq_false _ (Classical.propDecidable _) hk] at h1
        simp only [Instr.findNow, ha, h1, hr]
      · cases r with
        | none =>
          intro e' he'
          rcases List.mem_cons.1 he' with rfl | he'
          · rw [ha]; exact fun hh => hk hh.symm
          · exact hp e' he'
        | some q =>
          obtain ⟨j, v⟩ := q
          obtain ⟨l, e', hj, hl, h1, h2, h3⟩ := hp
          refine ⟨l + 1, e', by omega, by simpa using hl, h1, h2, fun j' e'' hj' he'' => ?_⟩
          cases j' with
          | zero =>
            simp only [List.getElem?_cons_zero, Option.some.injEq] at he''
            subst he''
            rw [ha]; exact fun hh => hk hh.symm
          | succ j' => exact h3 j' e'' (by omega) (by simpa using he'')
theorem keyK_of {P : Program} {kt : TypeId} {d : TypeDesc} [hu : Und P kt d] {κ : Type} {ke : κ → Value} (inj : ∀ {a b : κ}, ke a = ke b → a = b) (hs : ∀ a b : κ, Instr.sameNow d (ke a) (ke b) = some (@decide (ke a = ke b) (Classical.propDecidable _)))
    (check : ∀ (b : Bool) (a : κ) w, (Instr.checkKey b 10000 kt (ke a)).run P w = .ok () w) (same : ∀ a, Instr.sameBits 10000 (ke a) (ke a) = true) : KeyK P kt ke where
  inj := inj
  check := check
  find := fun k es w h => by
    obtain ⟨r, hr, hp⟩ := findNow_spec k hs es 0 h
    refine ⟨r, ?_, ?_⟩
    · simp only [Instr.findKey, Sem.run_bind, run_und, Result.andThen_ok, hr, Sem.run_pure]
    · cases r with
      | none => exact hp
      | some q =>
        obtain ⟨j, v⟩ := q
        obtain ⟨l, e, hj, h1, h2, h3, h4⟩ := hp
        rw [Nat.zero_add] at hj
        subst hj
        exact ⟨e, h1, h2, h3, h4⟩
  stays := fun a w => by simp only [Instr.keyThatStays, same, if_true, Sem.run_pure]
instance keyK_int {P : Program} {kt : TypeId} {k : IntKind} [hu : Und P kt (.int k)] : KeyK P kt (Value.int k) :=
  keyK_of (fun h => by injection h) (fun a b => by
    simp only [Instr.sameNow, if_true, Option.some.injEq, Value.int.injEq, true_and]
    by_cases h : a = b <;> simp [h]) (fun b a w => by
    have h1 : P.underlying kt = some (.int k) := hu.out
    unfold Instr.checkKey
    simp [run_und]) (fun a => by simp [Instr.sameBits])
instance keyK_string {P : Program} {kt : TypeId} [hu : Und P kt .string] : KeyK P kt Value.string :=
  keyK_of (fun h => by injection h) (fun a b => by
    simp only [Instr.sameNow, bbeq]
    by_cases h : a = b <;> simp [h]) (fun b a w => by
    unfold Instr.checkKey
    simp [run_und]) (fun a => by simp [Instr.sameBits, bbeq])
/-- Where the map r stands among the chunks. -/
class MapIn {κ β : outParam Type} (L : List Hp) (r : Nat) (ke : outParam (κ → Value)) (ve : outParam (β → Value)) (m : outParam (List (κ × β))) (K : outParam (List (κ × β) → List Hp)) : Prop where
  out : ∀ h, stars L h → ∃ h1 h2, Heap.dj h1 h2 ∧ h = Heap.un h1 h2 ∧ mapR ke ve r m h1 ∧ ∀ m' h1', Heap.dj h1' h2 → mapR ke ve r m' h1' → stars (K m') (Heap.un h1' h2)
instance (priority := high) mapIn_here {κ β : Type} {L : List Hp} {r : Nat} {ke : κ → Value} {ve : β → Value} {m : List (κ × β)} : MapIn (mapR ke ve r m :: L) r ke ve m (fun m' => mapR ke ve r m' :: L) := ⟨by
  rintro h ⟨h1, h2, hd, rfl, hm, hl⟩
  exact ⟨h1, h2, hd, rfl, hm, fun m' h1' hd' hm' => ⟨h1', h2, hd', rfl, hm', hl⟩⟩⟩
instance (priority := low) mapIn_there {κ β : Type} {c : Hp} {L : List Hp} {r : Nat} {ke : κ → Value} {ve : β → Value} {m : List (κ × β)} {K : List (κ × β) → List Hp} [i : MapIn L r ke ve m K] : MapIn (c :: L) r ke ve m (fun m' => c :: K m') := ⟨by
  rintro h ⟨g1, g2, hd, rfl, hc, hl⟩
  obtain ⟨h1, h2, hd2, rfl, hm, hk⟩ := i.out g2 hl
  obtain ⟨d1, d2⟩ := Heap.dj_un_right.1 hd
  refine ⟨h1, Heap.un g1 h2, Heap.dj_un_right.2 ⟨Heap.dj_comm d1, hd2⟩, by rw [← Heap.un_assoc, Heap.un_comm d1, Heap.un_assoc], hm, fun m' h1' hd' hm' => ?_⟩
  obtain ⟨e1, e2⟩ := Heap.dj_un_right.1 hd'
  refine ⟨g1, Heap.un h1' h2, Heap.dj_un_right.2 ⟨Heap.dj_comm e1, d2⟩, by rw [← Heap.un_assoc, Heap.un_comm e1, Heap.un_assoc], hc, hk m' h1' e2 hm'⟩⟩
section
variable {κ β : Type} {L : List Hp} {F : Fr} {w : World} {r : Nat} {ke : κ → Value} {ve : β → Value} {m : List (κ × β)} {K : List (κ × β) → List Hp} {P : Program}
theorem MapIn.get (i : MapIn L r ke ve m K) (hs : Sat L F w) : ∃ es clk, w.heap[r]? = some (.map es clk) ∧ MapOf ke ve m es clk := by
  obtain ⟨h, hl, hd, s1, s2, s3, s4⟩ := hs
  obtain ⟨h1, h2, hd2, rfl, ⟨es, clk, rfl, hm⟩, _⟩ := i.out h hl
  have : wat w r 0 = some (.obj (.map es clk)) := s1 _ _ _ (Heap.un_left (by unfold single; rw [if_pos ⟨rfl, rfl⟩]))
  exact ⟨es, clk, (wat_obj this).1, hm⟩
theorem MapIn.set (i : MapIn L r ke ve m K) (hs : Sat L F w) {m' : List (κ × β)} {es' : Array MapEntry} {clk' : Nat} (hm' : MapOf ke ve m' es' clk') : Sat (K m') F { w with heap := w.heap.setIfInBounds r (.map es' clk') } := by
  obtain ⟨h, hl, hd, s1, s2, s3, s4⟩ := hs
  obtain ⟨h1, h2, hd2, rfl, ⟨es, clk, rfl, hm⟩, hk⟩ := i.out h hl
  obtain ⟨d1, d2⟩ := Heap.dj_un_left.1 hd
  have h0 : wat w r 0 = some (.obj (.map es clk)) := s1 _ _ _ (Heap.un_left (by unfold single; rw [if_pos ⟨rfl, rfl⟩]))
  have hr := wat_lt h0
  have hob := wat_obj h0
  have hd1' : ∀ k : Heap, Heap.dj (single r (.map es clk)) k → Heap.dj (single r (.map es' clk')) k := fun k hk b o => by
    rcases hk b o with h5 | h5
    · left
      unfold single at h5 ⊢
      split at h5
      · cases h5
      · rename_i hh; rw [if_neg hh]
    · exact .inr h5
  have hne : ∀ k : Heap, Heap.sub k (wat w) → Heap.dj (single r (.map es clk)) k → Heap.sub k (wat ({ w with heap := w.heap.setIfInBounds r (.map es' clk') } : World)) := fun k hks hdk b o c hc => by
    by_cases hb : b = r
    · subst hb
      have h5 := hks b o c hc
      unfold wat at h5
      rw [hob.1] at h5
      simp only at h5
      by_cases ho : o = 0
      · subst ho
        rcases hdk b 0 with h6 | h6
        · unfold single at h6; rw [if_pos ⟨rfl, rfl⟩] at h6; cases h6
        · rw [h6] at hc; cases hc
      · rw [if_neg ho] at h5; cases h5
    · rw [wat_block (w := w) (by simp only [Array.getElem?_setIfInBounds]; rw [if_neg (fun hh => hb hh.symm)])]
      exact hks b o c hc
  refine ⟨Heap.un (single r (.map es' clk')) h2, hk m' _ (hd1' h2 hd2) ⟨es', clk', rfl, hm'⟩, Heap.dj_un_left.2 ⟨hd1' _ d1, d2⟩, Heap.sub_un (fun b o c hc => ?_) (hne h2 (Heap.sub_right hd2 s1) hd2), hne F.h s2 d1, fun b o c hc => ?_, ?_⟩
  · unfold single at hc
    split at hc
    · rename_i hh
      obtain ⟨rfl, rfl⟩ := hh
      rw [← Option.some.inj hc]
      unfold wat
      simp only [Array.getElem?_setIfInBounds, if_true, hr]
    · cases hc
  · rcases Heap.un_some.1 hc with h5 | ⟨_, h5⟩
    · unfold single at h5
      split at h5
      · rename_i hh
        obtain ⟨rfl, rfl⟩ := hh
        exact s3 _ _ _ (Heap.un_left (by unfold single; rw [if_pos ⟨rfl, rfl⟩]))
      · cases h5
    · exact s3 _ _ _ (Heap.un_right hd2 h5)
  · have hb : F.W.heap.size ≤ r := s3 r 0 _ (Heap.un_left (by unfold single; rw [if_pos ⟨rfl, rfl⟩]))
    refine s4.trans ⟨rfl, rfl, rfl, by simp, fun k hk => ?_⟩
    show (w.heap.setIfInBounds r _)[k]? = w.heap[k]?
    rw [Array.getElem?_setIfInBounds, if_neg (by omega)]
theorem run_getObj {w : World} {r : Nat} {es : Array MapEntry} {clk : Nat} (h : w.heap[r]? = some (.map es clk)) : (getObj r).run P w = .ok (.map es clk) w := by
  simp only [getObj, Sem.run, h]
theorem run_setObj {w : World} {r : Nat} {es : Array MapEntry} {clk : Nat} (h : w.heap[r]? = some (.map es clk)) (x : Obj) : (setObj r x).run P w = .ok () { w with heap := w.heap.setIfInBounds r x } := by
  simp only [setObj, Sem.run, h]
theorem MapOf.keyed {es : Array MapEntry} {clk : Nat} (hm : MapOf ke ve m es clk) : ∀ e ∈ es.toList, ∃ a, e.key = ke a := fun e he => by
  have : (e.key, e.val) ∈ m.map (fun p => (ke p.1, ve p.2)) := by rw [← hm.kv]; exact List.mem_map.2 ⟨e, he, rfl⟩
  obtain ⟨p, _, hp⟩ := List.mem_map.1 this
  exact ⟨p.1, by injection hp with h1 _; exact h1.symm⟩
theorem MapOf.at {es : Array MapEntry} {clk : Nat} (hm : MapOf ke ve m es clk) {i : Nat} {e : MapEntry} (he : es.toList[i]? = some e) : ∃ p, m[i]? = some p ∧ e.key = ke p.1 ∧ e.val = ve p.2 := by
  have h1 : (es.toList.map (fun e => (e.key, e.val)))[i]? = some (e.key, e.val) := by rw [List.getElem?_map, he]; rfl
  rw [hm.kv, List.getElem?_map] at h1
  obtain ⟨p, hp, hpe⟩ := Option.map_eq_some_iff.1 h1
  injection hpe with h2 h3
  exact ⟨p, hp, h2.symm, h3.symm⟩
theorem mget_at [DecidableEq κ] : ∀ {m : List (κ × β)} {i : Nat} {p : κ × β}, (m.map (·.1)).Nodup → m[i]? = some p → mget m p.1 = some p.2
  | [], i, p, _, h => by simp at h
  | q :: m, 0, p, _, h => by
    simp only [List.getElem?_cons_zero, Option.some.injEq] at h
    subst h
    simp [mget]
  | q :: m, i + 1, p, hn, h => by
    simp only [List.getElem?_cons_succ] at h
    simp only [List.map_cons, List.nodup_cons] at hn
    have : q.1 ≠ p.1 := fun hh => hn.1 (hh ▸ List.mem_map.2 ⟨p, List.mem_of_getElem? h, rfl⟩)
    rw [show (q : κ × β) = (q.1, q.2) from rfl, mget, if_neg this]
    exact mget_at hn.2 h
/-- What a search comes to. -/
theorem MapOf.find [DecidableEq κ] {kt : TypeId} [hk : KeyK P kt ke] {es : Array MapEntry} {clk : Nat} (hm : MapOf ke ve m es clk) (k : κ) (w : World) :
    (mget m k = none ∧ (Instr.findKey kt (ke k) es.toList).run P w = .ok none w) ∨ ∃ i x e, mget m k = some x ∧ m[i]? = some (k, x) ∧ es.toList[i]? = some e ∧ e.key = ke k ∧ (Instr.findKey kt (ke k) es.toList).run P w = .ok (some (i, ve x)) w := by
  obtain ⟨r, hr, hp⟩ := hk.find k es.toList w hm.keyed
  cases r with
  | none =>
    left
    refine ⟨mget_none.2 fun hmem => ?_, hr⟩
    obtain ⟨p, hp1, hp2⟩ := List.mem_map.1 hmem
    have : (ke p.1, ve p.2) ∈ es.toList.map (fun e => (e.key, e.val)) := by rw [hm.kv]; exact List.mem_map.2 ⟨p, hp1, rfl⟩
    obtain ⟨e, he, hee⟩ := List.mem_map.1 this
    injection hee with h1 h2
    exact hp e he (by rw [h1, hp2])
  | some q =>
    obtain ⟨i, v⟩ := q
    obtain ⟨e, he, h1, h2, _⟩ := hp
    obtain ⟨p, hp1, hp2, hp3⟩ := hm.at he
    have hpk : p.1 = k := hk.inj (hp2.symm.trans h1)
    right
    have : mget m k = some p.2 := by rw [← hpk]; exact mget_at hm.nodup hp1
    exact ⟨i, p.2, e, this, by rw [hp1, ← hpk], he, h1, by rw [hr, ← h2, hp3]⟩
end
class MG {κ β : Type} [DecidableEq κ] (m : List (κ × β)) (k : κ) (o : outParam (Option β)) : Prop where out : mget m k = o
section
variable {κ β : Type} [DecidableEq κ] {P : Program} {N : Nat} {e : Env} {L L' : List Hp} {F : Fr} {Q : Exit → Act → World → Prop} {ops : Array Oper} {d : Nat} {dst : Option Nat} {g : Option (Nat × Bool)} {t t' kt vt : TypeId} {p : String} {af : Array Edge} {rest : List Oper} {x y u : Operand} {v z : Value} {r : Nat} {v1 : TypeId}
  {ke : κ → Value} {ve : β → Value} {m : List (κ × β)} {K : List (κ × β) → List Hp} {k : κ} {b : β}
instance sv_lookup2_some [hx : EvO e x (.map (some r))] [i : MapIn L r ke ve m K] [hy : EvO e y (ke k)] [ht : Und P t (.map kt vt)] [hk : KeyK P kt ke] [hg : MG m k (some b)] : StepV P e L F ⟨dst, .lookup t x y true, v1, p, af, g⟩ (.tuple #[ve b, .bool true]) := ⟨fun {N a w} hf hs => by
  obtain ⟨es, clk, hh, hm⟩ := i.get hs
  rcases hm.find (P := P) (kt := kt) k w with ⟨h1, _⟩ | ⟨j, x0, e0, h1, h2, h3, h4, h5⟩
  · rw [hg.out] at h1; cases h1
  · rw [hg.out] at h1
    cases h1
    simp only [execOp, hx.out hf, hy.out hf, Instr.lookup, Sem.run_bind, run_und, Result.andThen_ok, run_getObj hh, Sem.run_pure, hk.check, h5, if_true]⟩
instance sv_lookup2_none [hx : EvO e x (.map (some r))] [i : MapIn L r ke ve m K] [hy : EvO e y (ke k)] [ht : Und P t (.map kt vt)] [hk : KeyK P kt ke] [hz : Zro P vt z] [hg : MG m k (none : Option β)] : StepV P e L F ⟨dst, .lookup t x y true, v1, p, af, g⟩ (.tuple #[z, .bool false]) := ⟨fun {N a w} hf hs => by
  obtain ⟨es, clk, hh, hm⟩ := i.get hs
  rcases hm.find (P := P) (kt := kt) k w with ⟨h1, h5⟩ | ⟨j, x0, e0, h1, _⟩
  · simp only [execOp, hx.out hf, hy.out hf, Instr.lookup, Sem.run_bind, run_und, Result.andThen_ok, run_getObj hh, Sem.run_pure, hk.check, h5, if_true, hz.out]
  · rw [hg.out] at h1; cases h1⟩
instance sv_lookup1_some [hx : EvO e x (.map (some r))] [i : MapIn L r ke ve m K] [hy : EvO e y (ke k)] [ht : Und P t (.map kt vt)] [hk : KeyK P kt ke] [hg : MG m k (some b)] : StepV P e L F ⟨dst, .lookup t x y false, v1, p, af, g⟩ (ve b) := ⟨fun {N a w} hf hs => by
  obtain ⟨es, clk, hh, hm⟩ := i.get hs
  rcases hm.find (P := P) (kt := kt) k w with ⟨h1, _⟩ | ⟨j, x0, e0, h1, h2, h3, h4, h5⟩
  · rw [hg.out] at h1; cases h1
  · rw [hg.out] at h1
    cases h1
    simp only [execOp, hx.out hf, hy.out hf, Instr.lookup, Sem.run_bind, run_und, Result.andThen_ok, run_getObj hh, Sem.run_pure, hk.check, h5, Bool.false_eq_true, if_false]⟩
instance sv_lookup1_none [hx : EvO e x (.map (some r))] [i : MapIn L r ke ve m K] [hy : EvO e y (ke k)] [ht : Und P t (.map kt vt)] [hk : KeyK P kt ke] [hz : Zro P vt z] [hg : MG m k (none : Option β)] : StepV P e L F ⟨dst, .lookup t x y false, v1, p, af, g⟩ z := ⟨fun {N a w} hf hs => by
  obtain ⟨es, clk, hh, hm⟩ := i.get hs
  rcases hm.find (P := P) (kt := kt) k w with ⟨h1, h5⟩ | ⟨j, x0, e0, h1, _⟩
  · simp only [execOp, hx.out hf, hy.out hf, Instr.lookup, Sem.run_bind, run_und, Result.andThen_ok, run_getObj hh, Sem.run_pure, hk.check, h5, Bool.false_eq_true, if_false, hz.out]
  · rw [hg.out] at h1; cases h1⟩
instance sv_len_map [hx : EvO e x (.map (some r))] [i : MapIn L r ke ve m K] [ht : Und P t (.map kt vt)] : StepV P e L F ⟨dst, .call { callee := .builtin .len, args := #[x], argTypes := #[t] }, v1, p, af, g⟩ (.int .i64 (m.length : Int)) := ⟨fun {N a w} hf hs => by
  obtain ⟨es, clk, hh, hm⟩ := i.get hs
  have hsz : es.size = m.length := by
    have := congrArg List.length hm.kv
    simpa using this
  simp only [execOp, resolve, invoke, builtin, Builtin.len_, List.map_toArray, List.map_cons, List.map_nil, hx.out hf, Sem.run_bind, Sem.run_pure, Result.andThen_ok, List.getElem?_toArray, List.getElem?_cons_zero, run_und, goInt, run_getObj hh, hsz]⟩
theorem mput_at {m : List (κ × β)} {k : κ} {v x : β} : ∀ {m : List (κ × β)} {i : Nat}, (m.map (·.1)).Nodup → m[i]? = some (k, x) → mput m k v = m.set i (k, v)
  | [], i, _, h => by simp at h
  | q :: m, 0, _, h => by
    simp only [List.getElem?_cons_zero, Option.some.injEq] at h
    subst h
    simp [mput]
  | q :: m, i + 1, hn, h => by
    simp only [List.getElem?_cons_succ] at h
    simp only [List.map_cons, List.nodup_cons] at hn
    have : q.1 ≠ k := fun hh => hn.1 (hh ▸ List.mem_map.2 ⟨(k, x), List.mem_of_getElem? h, rfl⟩)
    rw [show (q : κ × β) = (q.1, q.2) from rfl, mput, if_neg this, List.set_cons_succ, mput_at hn.2 h]
    exact m
theorem mdel_at {k : κ} {x : β} : ∀ {m : List (κ × β)} {i : Nat}, (m.map (·.1)).Nodup → m[i]? = some (k, x) → mdel m k = m.eraseIdx i
  | [], i, _, h => by simp at h
  | q :: m, 0, _, h => by
    simp only [List.getElem?_cons_zero, Option.some.injEq] at h
    subst h
    simp [mdel]
  | q :: m, i + 1, hn, h => by
    simp only [List.getElem?_cons_succ] at h
    simp only [List.map_cons, List.nodup_cons] at hn
    have : q.1 ≠ k := fun hh => hn.1 (hh ▸ List.mem_map.2 ⟨(k, x), List.mem_of_getElem? h, rfl⟩)
    rw [show (q : κ × β) = (q.1, q.2) from rfl, mdel, if_neg this, List.eraseIdx_cons_succ, mdel_at hn.2 h]
theorem MapOf.put {es : Array MapEntry} {clk : Nat} [hk : KeyK P kt ke] (hm : MapOf ke ve m es clk) (k : κ) (b : β) (w : World) (hgo : w.heap[r]? = some (.map es clk)) (hu : P.underlying t = some (.map kt vt)) :
    ∃ es' clk', (Instr.mapUpdate t (.map (some r)) (ke k) (ve b)).run P w = .ok () { w with heap := w.heap.setIfInBounds r (.map es' clk') } ∧ MapOf ke ve (mput m k b) es' clk' := by
  have ht : Und P t (.map kt vt) := ⟨hu⟩
  rcases hm.find (P := P) (kt := kt) k w with ⟨h1, h5⟩ | ⟨j, x0, e0, h1, h2, h3, h4, h5⟩
  · refine ⟨es.push { key := ke k, val := ve b, born := clk }, clk + 1, ?_, ?_⟩
    · simp only [Instr.mapUpdate, Sem.run_bind, run_und, Result.andThen_ok, run_getObj hgo, hk.check, h5, run_setObj hgo]
    · rw [mput_new h1]
      refine ⟨by simp [hm.kv], by have := mput_nodup (v := b) (k := k) hm.nodup; rwa [mput_new h1] at this, ?_, fun e he => ?_⟩
      · simp only [Array.toList_push, List.map_append, List.map_cons, List.map_nil]
        rw [List.nodup_append]
        refine ⟨hm.born, by simp, fun a ha c hc => ?_⟩
        simp at hc
        subst hc
        obtain ⟨e', he', rfl⟩ := List.mem_map.1 ha
        have := hm.clk e' (Array.mem_toList_iff.1 he')
        omega
      · rcases Array.mem_push.1 he with h | rfl
        · have := hm.clk e h; omega
        · simp
  · have hj : j < es.size := by
      have := (List.getElem?_eq_some_iff.1 h3).1
      simpa using this
    refine ⟨es.modify j fun e => { e with key := ke k, val := ve b }, clk, ?_, ?_⟩
    · have hkey : ((es[j]?).map (·.key)).getD (ke k) = ke k := by
        have : es[j]? = some e0 := by rw [← Array.getElem?_toList]; exact h3
        rw [this]
        exact h4
      simp only [Instr.mapUpdate, Sem.run_bind, run_und, Result.andThen_ok, run_getObj hgo, hk.check, h5, hkey, hk.stays, run_setObj hgo]
    · rw [mput_at (m := m) hm.nodup h2]
      have hl : (es.modify j fun e => { e with key := ke k, val := ve b }).toList = es.toList.set j { e0 with key := ke k, val := ve b } := by
        apply List.ext_getElem?
        intro i
        rw [Array.getElem?_toList, Array.getElem?_modify, List.getElem?_set]
        by_cases hi : j = i
        · subst hi
          have h6 : es[j]? = some e0 := by rw [← Array.getElem?_toList]; exact h3
          rw [if_pos rfl, if_pos rfl, if_pos (by simpa using hj), h6]
          rfl
        · rw [if_neg hi, if_neg hi, Array.getElem?_toList]
      refine ⟨?_, ?_, ?_, fun e he => ?_⟩
      · rw [hl, List.map_set, hm.kv, List.map_set]
      · rw [List.map_set]
        have h7 : (m.map (·.1)).set j k = m.map (·.1) := by
          apply List.ext_getElem?
          intro i
          rw [List.getElem?_set]
          by_cases hi : j = i
          · subst hi
            rw [List.getElem?_map, h2]
            simp [(List.getElem?_eq_some_iff.1 h2).1]
          · rw [if_neg hi]
        rw [h7]
        exact hm.nodup
      · rw [hl, List.map_set]
        have h7 : (es.toList.map (·.born)).set j e0.born = es.toList.map (·.born) := by
          apply List.ext_getElem?
          intro i
          rw [List.getElem?_set]
          by_cases hi : j = i
          · subst hi
            have h6 : es[j] = e0 := by
              rw [← Array.getElem_toList hj]
              exact (List.getElem?_eq_some_iff.1 h3).2
            rw [List.getElem?_map, h3]
            simp [hj, h6]
          · rw [if_neg hi]
        rw [h7]
        exact hm.born
      · have : e ∈ es.toList.set j { e0 with key := ke k, val := ve b } := by rw [← hl]; exact Array.mem_toList_iff.2 he
        rcases List.mem_or_eq_of_mem_set this with h | rfl
        · exact hm.clk e (Array.mem_toList_iff.1 h)
        · exact hm.clk e0 (Array.mem_toList_iff.1 (List.mem_of_getElem? h3))
theorem j_mapset [hx : EvO e x (.map (some r))] [i : MapIn L r ke ve m K] [hy : EvO e y (ke k)] [hz : EvO e u v] [ht : Und P t (.map kt vt)] [hk : KeyK P kt ke] (b : β) (hb : ve b = v) (h : J N e (K (mput m k b)) F (wpList P ops Q rest)) :
    J N e L F (wpList P ops Q (⟨none, .mapUpdate t x y u, v1, p, af, none⟩ :: rest)) :=
  j_runU fun a w hf hs => by
    obtain ⟨es, clk, hh, hm⟩ := i.get hs
    obtain ⟨es', clk', h1, h2⟩ := hm.put (P := P) (kt := kt) (vt := vt) (t := t) (r := r) k b w hh ht.out
    refine ⟨_, ?_, h a _ hf (i.set hs h2)⟩
    rw [hb] at h1
    simp only [execOp, hx.out hf, hy.out hf, hz.out hf, Sem.run_bind, h1, Result.andThen_ok, Sem.run_pure]
theorem MapOf.del {es : Array MapEntry} {clk : Nat} [hk : KeyK P kt ke] (hm : MapOf ke ve m es clk) (k : κ) (w : World) (hgo : w.heap[r]? = some (.map es clk)) (hu : P.underlying t = some (.map kt vt)) (t' : TypeId) :
    ∃ es' clk', (Builtin.delete_ #[t, t'] v1 #[.map (some r), ke k]).run P w = .ok (.tuple #[]) { w with heap := w.heap.setIfInBounds r (.map es' clk') } ∧ MapOf ke ve (mdel m k) es' clk' := by
  have ht : Und P t (.map kt vt) := ⟨hu⟩
  rcases hm.find (P := P) (kt := kt) k w with ⟨h1, h5⟩ | ⟨j, x0, e0, h1, h2, h3, h4, h5⟩
  · refine ⟨es, clk, ?_, by rw [mdel_none h1]; exact hm⟩
    simp only [Builtin.delete_, List.getElem?_toArray, List.getElem?_cons_zero, List.getElem?_cons_succ, Sem.run_bind, run_und, Result.andThen_ok, run_getObj hgo, hk.check, h5, run_setObj hgo, Sem.run_pure]
  · have hl : (es.eraseIdxIfInBounds j).toList = es.toList.eraseIdx j := by
      rw [Array.toList_eraseIdxIfInBounds]
    refine ⟨es.eraseIdxIfInBounds j, clk, ?_, ?_⟩
    · simp only [Builtin.delete_, List.getElem?_toArray, List.getElem?_cons_zero, List.getElem?_cons_succ, Sem.run_bind, run_und, Result.andThen_ok, run_getObj hgo, hk.check, h5, run_setObj hgo, Sem.run_pure]
    · rw [mdel_at hm.nodup h2]
      refine ⟨?_, ?_, ?_, fun e he => ?_⟩
      · rw [hl, eraseIdx_map', hm.kv, ← eraseIdx_map']
      · rw [eraseIdx_map']
        exact hm.nodup.sublist (List.eraseIdx_sublist _ _)
      · rw [hl, eraseIdx_map']
        exact hm.born.sublist (List.eraseIdx_sublist _ _)
      · have : e ∈ es.toList.eraseIdx j := by rw [← hl]; exact Array.mem_toList_iff.2 he
        exact hm.clk e (Array.mem_toList_iff.1 ((List.eraseIdx_sublist _ _).mem this))
theorem j_mapdel [hx : EvO e x (.map (some r))] [i : MapIn L r ke ve m K] [hy : EvO e y (ke k)] [ht : Und P t (.map kt vt)] [hk : KeyK P kt ke] (h : J N e (K (mdel m k)) F (wpList P ops Q rest)) :
    J N e L F (wpList P ops Q (⟨none, .call { callee := .builtin .delete, args := #[x, y], argTypes := #[t, t'] }, v1, p, af, none⟩ :: rest)) := fun a w hf hs => by
  obtain ⟨es, clk, hh, hm⟩ := i.get hs
  obtain ⟨es', clk', h1, h2⟩ := hm.del (P := P) (kt := kt) (vt := vt) (t := t) (r := r) (v1 := v1) k w hh ht.out t'
  unfold wpList
  rw [if_pos (wanted_none rfl _)]
  left
  unfold Oper.wp
  have : (execOp a.eval ⟨none, .call { callee := .builtin .delete, args := #[x, y], argTypes := #[t, t'] }, v1, p, af, none⟩).run P w = .ok (.value (.tuple #[])) { w with heap := w.heap.setIfInBounds r (.map es' clk') } := by
    simp only [execOp, resolve, invoke, builtin, List.map_toArray, List.map_cons, List.map_nil, hx.out hf, hy.out hf, Sem.run_bind, Sem.run_pure, Result.andThen_ok, h1]
  rw [this]
  exact h a _ hf (i.set hs h2)
omit [DecidableEq κ] in
theorem mapOf_nil : MapOf ke ve ([] : List (κ × β)) #[] 0 := ⟨rfl, by simp, by simp, fun e he => by simp at he⟩
omit [DecidableEq κ] in
theorem j_makeMap (ke : κ → Value) (ve : β → Value) (hd : Nat.blt d N = true) (h : ∀ r, J N ((d, .map (some r)) :: e) (mapR ke ve r [] :: L) F (wpList P ops Q rest)) : J N e L F (wpList P ops Q (⟨some d, .makeMap t none, v1, p, af, none⟩ :: rest)) :=
  j_run rfl fun a w hf hs => by
    refine ⟨_, w.alloc (.map #[] 0), ?_, h w.heap.size _ _ (hf.put hd _) (hs.alloc _ ⟨#[], 0, ?_, mapOf_nil⟩)⟩
    · simp only [execOp, Instr.makeMap, Option.map_none, Sem.run_bind, Sem.run_pure, run_newObj, Result.andThen_ok]
      rfl
    · refine Heap.ext' fun b o => ?_
      unfold single
      by_cases hb : b = w.heap.size
      · subst hb
        rw [if_pos rfl, wat_alloc_obj (fun _ _ _ h => by cases h)]
        by_cases ho : o = 0 <;> simp [ho]
      · rw [if_neg hb, if_neg (fun hh => hb hh.1)]
end
attribute [irreducible] mapR
end Go.Proofs.YtjmicpkinflofaaDoor.S
