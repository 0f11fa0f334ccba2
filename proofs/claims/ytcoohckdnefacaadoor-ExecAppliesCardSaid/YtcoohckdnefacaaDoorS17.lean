/- The walk: ranges over strings and maps; contracts of the kit's. Generic over programs. -/
import Derived.Test.YtcoohckdnefacaaDoorS16
import Derived.Laws.RangeString
import Derived.Laws.RangeAny
import Derived.Maps.RangeRun
namespace Go.Proofs.YtcoohckdnefacaaDoor.S
open Go.RowKit
set_option linter.unusedVariables false
set_option linter.unusedSimpArgs false
/-- An object. -/
def objR (b : Nat) (o : Obj) : Hp := fun h => h = single b o
theorem Sat.exs {Qx : List Hp → Prop} {c : Hp} {L L' : List Hp} {F : Fr} {w : World} (hc : c = exs Qx) (hp : Pick c L L') (hs : Sat L F w) : ∃ M, Qx M ∧ Sat (M ++ L') F w := by
  obtain ⟨h, hl, hr⟩ := hs
  obtain ⟨h1, h2, hd, rfl, h3, h4⟩ := (hp.stars h).1 hl
  rw [hc] at h3
  obtain ⟨M, hM, hm⟩ := h3
  exact ⟨M, hM, _, stars_append.2 ⟨h1, h2, hd, rfl, hm, h4⟩, hr⟩
theorem Sat.obj {b : Nat} {o : Obj} {L : List Hp} {F : Fr} {w : World} (ho : ∀ x y z, o ≠ .cells x y z) (hs : Sat (objR b o :: L) F w) : w.heap[b]? = some o := by
  have h := (hs.single_lt (o := o) (r := b) (fun h hh => hh)).1
  exact (wat_obj h).1
theorem run_getObj' {P : Program} {w : World} {r : Nat} {o : Obj} (h : w.heap[r]? = some o) (ho : ∀ x y z, o ≠ .cells x y z) : (getObj r).run P w = .ok o w := by
  cases o <;> first | exact absurd rfl (ho _ _ _) | simp [getObj, Sem.run, h]
theorem run_setObj' {P : Program} {w : World} {r : Nat} {o : Obj} (h : w.heap[r]? = some o) (ho : ∀ x y z, o ≠ .cells x y z) (o' : Obj) : (setObj r o').run P w = .ok () { w with heap := w.heap.setIfInBounds r o' } := by
  cases o <;> first | exact absurd rfl (ho _ _ _) | simp [setObj, Sem.run, h]
theorem Sat.newObj {L : List Hp} {F : Fr} {w : World} (hs : Sat L F w) {o : Obj} (ho : ∀ x y z, o ≠ .cells x y z) : Sat (objR w.heap.size o :: L) F (w.alloc o) := by
  refine hs.alloc o ?_
  refine Heap.ext' fun b p => ?_
  unfold single
  by_cases hb : b = w.heap.size
  · subst hb
    rw [if_pos rfl, wat_alloc_obj ho]
    by_cases hp : p = 0
    · rw [if_pos hp, if_pos ⟨rfl, hp⟩]
    · rw [if_neg hp, if_neg (fun hh => hp hh.2)]
  · rw [if_neg hb, if_neg (fun hh => hb hh.1)]
section strings
variable {P : Program} {N : Nat} {e : Env} {L L' : List Hp} {F : Fr} {Q : Exit → Act → World → Prop} {ops : Array Oper} {d : Nat} {t v1 : TypeId} {p : String} {af : Array Edge} {rest : List Oper} {x : Operand} {s : ByteArray} {b pos : Nat}
theorem j_rangeStr [hx : EvO e x (.string s)] [ht : Und P t .string] (hd : Nat.blt d N = true) (h : ∀ b, J N ((d, .pointer (some ⟨b, 0, none⟩)) :: e) (objR b (.stringIter s 0) :: L) F (wpList P ops Q rest)) :
    J N e L F (wpList P ops Q (⟨some d, .range t x, v1, p, af, none⟩ :: rest)) :=
  j_run rfl fun a w hf hs => by
    refine ⟨_, w.alloc (.stringIter s 0), ?_, h w.heap.size _ _ (hf.put hd _) (hs.newObj (fun _ _ _ h => by cases h))⟩
    have := run_range_string (P := P) w t s ht.out
    simp only [execOp, hx.out hf, Sem.run_bind, Sem.run_pure, Result.andThen_ok, this]
    rfl
theorem j_nextStr_end [hx : EvO e x (.pointer (some ⟨b, 0, none⟩))] (hp : Pick (objR b (.stringIter s pos)) L L') (hpos : ¬ pos < s.size) (hd : Nat.blt d N = true) (h : J N ((d, .tuple #[.bool false]) :: e) L F (wpList P ops Q rest)) :
    J N e L F (wpList P ops Q (⟨some d, .next x true, v1, p, af, none⟩ :: rest)) :=
  j_run rfl fun a w hf hs => by
    have hb : w.heap[b]? = some (.stringIter s pos) := (hs.le (LE.pick hp (LE.refl _))).obj (fun _ _ _ h => by cases h)
    refine ⟨_, w, ?_, h _ _ (hf.put hd _) hs⟩
    simp only [execOp, hx.out hf, Instr.next, run_getObj' hb (by simp), Sem.run_bind, Sem.run_pure, Result.andThen_ok, hpos, if_false]
theorem j_nextStr [hx : EvO e x (.pointer (some ⟨b, 0, none⟩))] (hp : Pick (objR b (.stringIter s pos)) L L') (hpos : pos < s.size) (hd : Nat.blt d N = true) (h : J N ((d, .tuple #[.bool true, .int .i64 (pos : Int), .int .i32 ((Utf8.decode s pos).1 : Int)]) :: e) (objR b (.stringIter s (pos + (Utf8.decode s pos).2)) :: L') F (wpList P ops Q rest)) :
    J N e L F (wpList P ops Q (⟨some d, .next x true, v1, p, af, none⟩ :: rest)) :=
  j_run rfl fun a w hf hs => by
    have hs1 := hs.le (LE.pick hp (LE.refl _))
    have hb : w.heap[b]? = some (.stringIter s pos) := hs1.obj (fun _ _ _ h => by cases h)
    have hs2 := hs1.single_set (r := b) (o := .stringIter s pos) (o' := .stringIter s (pos + (Utf8.decode s pos).2)) (c' := objR b (.stringIter s (pos + (Utf8.decode s pos).2))) (fun h hh => hh) rfl (fun _ _ _ h => by cases h)
    refine ⟨_, _, ?_, h _ _ (hf.put hd _) hs2⟩
    simp only [execOp, hx.out hf, Instr.next, run_getObj' hb (by simp), Sem.run_bind, Sem.run_pure, Result.andThen_ok, hpos, if_true, run_setObj' hb (by simp)]
    rfl
end strings
/-! ### Maps -/
/-- A map that is ranged over, by the iterator b; done: what came. -/
abbrev rangesQ {κ β : Type} (ke : κ → Value) (ve : β → Value) (b r : Nat) (m done : List (κ × β)) (M : List Hp) : Prop := ∃ (es : Array MapEntry) (clk : Nat) (ds : List MapEntry) (st : Nat), MapOf ke ve m es clk ∧ clk ≤ st ∧ (∀ x ∈ ds, x ∈ es.toList) ∧ (ds.map (·.born)).Nodup ∧ ds.map (fun x => (x.key, x.val)) = done.map (fun p => (ke p.1, ve p.2)) ∧ (done ≠ [] → st = clk) ∧
  M = [objR b (.mapIter (some r) clk (ds.map (·.born)).toArray st), objR r (.map es clk)]
def rangesR {κ β : Type} (ke : κ → Value) (ve : β → Value) (b r : Nat) (m done : List (κ × β)) : Hp := exs (rangesQ ke ve b r m done)
theorem rangesR_eq {κ β : Type} (ke : κ → Value) (ve : β → Value) (b r : Nat) (m done : List (κ × β)) : rangesR ke ve b r m done = exs (rangesQ ke ve b r m done) := rfl
theorem mapR_obj {κ β : Type} {ke : κ → Value} {ve : β → Value} {r : Nat} {m : List (κ × β)} : mapR ke ve r m = exs (fun M => ∃ es clk, MapOf ke ve m es clk ∧ M = [objR r (.map es clk)]) := by
  refine funext fun h => propext ?_
  rw [mapR_iff]
  constructor
  · rintro ⟨es, clk, rfl, hm⟩
    exact ⟨_, ⟨es, clk, hm, rfl⟩, stars_one.2 rfl⟩
  · rintro ⟨_, ⟨es, clk, hm, rfl⟩, hs⟩
    have h1 : objR r (.map es clk) h := stars_one.1 hs
    exact ⟨es, clk, h1, hm⟩
section maps
variable {κ β : Type} {P : Program} {N : Nat} {e : Env} {L L' : List Hp} {F : Fr} {Q : Exit → Act → World → Prop} {ops : Array Oper} {d : Nat} {t kt vt v1 : TypeId} {p : String} {af : Array Edge} {rest : List Oper} {x : Operand} {r b : Nat} {ke : κ → Value} {ve : β → Value} {m done : List (κ × β)}
class Inj (ke : κ → Value) : Prop where out : ∀ {a b : κ}, ke a = ke b → a = b
instance inj_string : Inj Value.string := ⟨fun h => by cases h; rfl⟩
instance inj_int {k : IntKind} : Inj (Value.int k) := ⟨fun h => by cases h; rfl⟩
theorem nodup_get {α : Type} {l : List α} (hn : l.Nodup) {i j : Nat} {a : α} (hi : l[i]? = some a) (hj : l[j]? = some a) : i = j := by
  obtain ⟨h1, e1⟩ := List.getElem?_eq_some_iff.1 hi
  obtain ⟨h2, e2⟩ := List.getElem?_eq_some_iff.1 hj
  rcases Nat.lt_trichotomy i j with h | h | h
  · exact absurd (e1.trans e2.symm) (List.pairwise_iff_getElem.1 hn i j h1 h2 h)
  · exact h
  · exact absurd (e2.trans e1.symm) (List.pairwise_iff_getElem.1 hn j i h2 h1 h)
/-- The end of a range. -/
theorem LE.ranged (hp : Pick (rangesR ke ve b r m done) L L') : LE L (mapR ke ve r m :: L') := fun h hl => by
  obtain ⟨h1, h2, hd, rfl, h3, h4⟩ := (hp.stars h).1 hl
  rw [rangesR_eq] at h3
  obtain ⟨M, ⟨es, clk, ds, st, hm, _, _, _, _, _, rfl⟩, k1, k2, kd, rfl, hk1, hk2⟩ := h3
  obtain ⟨d1, d2⟩ := Heap.dj_un_left.1 hd
  refine ⟨Heap.un k2 h2, ?_, k2, h2, d2, rfl, ?_, h4⟩
  · exact Heap.sub_un (fun b o c hc => Heap.un_left (Heap.un_right kd hc)) (Heap.sub_un_right hd)
  · rw [mapR_iff]
    have h5 : objR r (.map es clk) k2 := stars_one.1 hk2
    exact ⟨es, clk, h5, hm⟩
theorem j_rangeMap [hx : EvO e x (.map (some r))] [i : MapAt L r ke ve m L'] [ht : Und P t (.map kt vt)] (hd : Nat.blt d N = true) (h : ∀ b, J N ((d, .pointer (some ⟨b, 0, none⟩)) :: e) (rangesR ke ve b r m [] :: L') F (wpList P ops Q rest)) :
    J N e L F (wpList P ops Q (⟨some d, .range t x, v1, p, af, none⟩ :: rest)) :=
  j_run rfl fun a w hf hs => by
    obtain ⟨M, ⟨es, clk, hm, rfl⟩, hs1⟩ := hs.exs mapR_obj i.out
    have hr : w.heap[r]? = some (.map es clk) := Sat.obj (fun _ _ _ h => by cases h) hs1
    have hs2 := hs1.newObj (o := .mapIter (some r) clk #[] clk) (fun _ _ _ h => by cases h)
    refine ⟨_, w.alloc (.mapIter (some r) clk #[] clk), ?_, h w.heap.size _ _ (hf.put hd _) (hs2.le ?_)⟩
    · simp only [execOp, hx.out hf, Instr.range, run_und, run_getObj' hr (by simp), Sem.run_bind, Sem.run_pure, Result.andThen_ok, run_newObj, World.alloc]
    · exact LE.fold (M := [objR w.heap.size (.mapIter (some r) clk #[] clk), objR r (.map es clk)]) (rangesR_eq ke ve _ r m []) ⟨es, clk, [], clk, hm, Nat.le_refl _, (fun x hx => by cases hx), by simp, rfl, fun _ => rfl, rfl⟩ (.cons .here (.cons .here .nil))
theorem born_inj {es : List MapEntry} (hn : (es.map (·.born)).Nodup) {x y : MapEntry} (hx : x ∈ es) (hy : y ∈ es) (h : x.born = y.born) : x = y := by
  obtain ⟨i, hi⟩ := List.mem_iff_getElem?.1 hx
  obtain ⟨j, hj⟩ := List.mem_iff_getElem?.1 hy
  have h1 : (es.map (·.born))[i]? = some x.born := by rw [List.getElem?_map, hi]; rfl
  have h2 : (es.map (·.born))[j]? = some x.born := by rw [List.getElem?_map, hj, h]; rfl
  have := nodup_get hn h1 h2
  subst this
  exact Option.some.inj (hi.symm.trans hj)
theorem j_nextMap [hk : Inj ke] [hx : EvO e x (.pointer (some ⟨b, 0, none⟩))] (hp : Pick (rangesR ke ve b r m done) L L') (hd : Nat.blt d N = true)
    (hend : (∀ k, k ∈ m.map (·.1) → k ∈ done.map (·.1)) → J N ((d, .tuple #[.bool false]) :: e) (rangesR ke ve b r m done :: L') F (wpList P ops Q rest))
    (hmore : ∀ q, q ∈ m → q.1 ∉ done.map (·.1) → J N ((d, .tuple #[.bool true, ke q.1, ve q.2]) :: e) (rangesR ke ve b r m (done ++ [q]) :: L') F (wpList P ops Q rest)) :
    J N e L F (wpList P ops Q (⟨some d, .next x false, v1, p, af, none⟩ :: rest)) :=
  j_run rfl fun a w hf hs => by
    obtain ⟨M, ⟨es, clk, ds, st, hm, hst, hds, hnd, hkv, hcl, rfl⟩, hs1⟩ := hs.exs (rangesR_eq ke ve b r m done) hp
    have hb : w.heap[b]? = some (.mapIter (some r) clk (ds.map (·.born)).toArray st) := Sat.obj (fun _ _ _ h => by cases h) hs1
    have hr : w.heap[r]? = some (.map es clk) := Sat.obj (L := objR b (.mapIter (some r) clk (ds.map (·.born)).toArray st) :: L') (fun _ _ _ h => by cases h) (hs1.le (LE.pick (.there .here) (LE.refl _)))
    have hdk : ∀ k, k ∈ done.map (·.1) ↔ ∃ y ∈ ds, y.key = ke k := fun k => by
      have e1 : ds.map (·.key) = done.map (fun p => ke p.1) := by have := congrArg (List.map Prod.fst) hkv; simpa [List.map_map, Function.comp_def] using this
      constructor
      · intro hh
        obtain ⟨q, hq, rfl⟩ := List.mem_map.1 hh
        have : ke q.1 ∈ ds.map (·.key) := by rw [e1]; exact List.mem_map.2 ⟨q, hq, rfl⟩
        obtain ⟨y, hy, hye⟩ := List.mem_map.1 this
        exact ⟨y, hy, hye⟩
      · rintro ⟨y, hy, hye⟩
        have : y.key ∈ done.map (fun p => ke p.1) := by rw [← e1]; exact List.mem_map.2 ⟨y, hy, rfl⟩
        obtain ⟨q, hq, hqe⟩ := List.mem_map.1 this
        exact List.mem_map.2 ⟨q, hq, hk.out (hqe.trans hye)⟩
    have hmem : ∀ q ∈ m, ∃ y ∈ es.toList, y.key = ke q.1 ∧ y.val = ve q.2 := fun q hq => by
      have : (ke q.1, ve q.2) ∈ es.toList.map (fun e => (e.key, e.val)) := by rw [hm.kv]; exact List.mem_map.2 ⟨q, hq, rfl⟩
      obtain ⟨y, hy, hye⟩ := List.mem_map.1 this
      exact ⟨y, hy, congrArg Prod.fst hye, congrArg Prod.snd hye⟩
    rcases run_next_at (P := P) w v1 b r clk st (ds.map (·.born)).toArray es clk hb hr (fun x hx => hm.clk x (Array.mem_toList_iff.1 hx)) hst with ⟨h0, hrun⟩ | ⟨y, hy, w1, hw1, hrun⟩
    · refine ⟨_, w, ?_, hend (fun k hkm => ?_) _ _ (hf.put hd _) (hs.le (LE.pick hp (LE.refl _)))⟩
      · simp only [execOp, hx.out hf, Sem.run_bind, Sem.run_pure, Result.andThen_ok, hrun]
      · obtain ⟨q, hq, rfl⟩ := List.mem_map.1 hkm
        obtain ⟨y, hy, hyk, hyv⟩ := hmem q hq
        rw [hdk]
        have : y.born ∈ ds.map (·.born) := Classical.byContradiction fun hno => by
          have hyl : y ∈ leftOf es (ds.map (·.born)).toArray := by
            unfold leftOf
            simp only [Array.mem_filter, Bool.not_eq_true', List.contains_toArray, Array.mem_toList_iff.1 hy, true_and]
            simpa using hno
          have := Array.size_pos_of_mem hyl
          omega
        obtain ⟨z, hz, hzb⟩ := List.mem_map.1 this
        have : z = y := born_inj hm.born (hds z hz) hy hzb
        subst this
        exact ⟨z, hz, hyk⟩
    · have hyl : y ∈ es.toList ∧ y.born ∉ ds.map (·.born) := by
        unfold leftOf at hy
        simp only [Array.toList_filter, List.mem_filter, Bool.not_eq_true', List.contains_toArray] at hy
        refine ⟨hy.1, ?_⟩
        have := hy.2
        simpa using this
      obtain ⟨hy1, hy2⟩ := hyl
      have hym : ∃ q ∈ m, y.key = ke q.1 ∧ y.val = ve q.2 := by
        have : (y.key, y.val) ∈ m.map (fun p => (ke p.1, ve p.2)) := by rw [← hm.kv]; exact List.mem_map.2 ⟨y, hy1, rfl⟩
        obtain ⟨q, hq, hqe⟩ := List.mem_map.1 this
        exact ⟨q, hq, (congrArg Prod.fst hqe).symm, (congrArg Prod.snd hqe).symm⟩
      obtain ⟨q, hq, hqk, hqv⟩ := hym
      have hqn : q.1 ∉ done.map (·.1) := fun hh => by
        obtain ⟨z, hz, hzk⟩ := (hdk _).1 hh
        have hkn : (es.toList.map (·.key)).Nodup := by
          have e1 : es.toList.map (·.key) = (m.map (·.1)).map ke := by have := congrArg (List.map Prod.fst) hm.kv; simpa [List.map_map, Function.comp_def] using this
          rw [e1]
          exact List.pairwise_map.2 (hm.nodup.imp fun hne he => hne (hk.out he))
        have hzy : z = y := by
          obtain ⟨i, hi⟩ := List.mem_iff_getElem?.1 (hds z hz)
          obtain ⟨j, hj⟩ := List.mem_iff_getElem?.1 hy1
          have h1 : (es.toList.map (·.key))[i]? = some z.key := by rw [List.getElem?_map, hi]; rfl
          have h2 : (es.toList.map (·.key))[j]? = some z.key := by rw [List.getElem?_map, hj, hzk, ← hqk]; rfl
          have := nodup_get hkn h1 h2
          subst this
          exact Option.some.inj (hi.symm.trans hj)
        subst hzy
        exact hy2 (List.mem_map.2 ⟨z, hz, rfl⟩)
      have hs2 : Sat ([objR b (.mapIter (some r) clk (ds.map (·.born)).toArray st), objR r (.map es clk)] ++ L') F w1 := by
        rcases hw1 with rfl | rfl
        · exact hs1
        · exact hs1.drew
      generalize hsn : (List.map (fun x : MapEntry => x.born) ds).toArray = sn at hs2 hrun
      have hs3 := hs2.single_set (r := b) (o := .mapIter (some r) clk sn st) (o' := .mapIter (some r) clk (sn.push y.born) clk) (c' := objR b (.mapIter (some r) clk (sn.push y.born) clk)) (fun h hh => hh) rfl (fun _ _ _ h => by cases h)
      refine ⟨_, _, ?_, hmore q hq hqn _ _ (hf.put hd _) (hs3.le ?_)⟩
      · rw [← hqk, ← hqv]
        simp only [execOp, hx.out hf, Sem.run_bind, Sem.run_pure, Result.andThen_ok, hrun]
        rfl
      · refine LE.fold (M := [objR b (.mapIter (some r) clk (sn.push y.born) clk), objR r (.map es clk)]) (rangesR_eq ke ve b r m (done ++ [q])) ⟨es, clk, ds ++ [y], clk, hm, Nat.le_refl _, fun z hz => ?_, ?_, ?_, fun _ => rfl, ?_⟩ (.cons .here (.cons .here .nil))
        · rcases List.mem_append.1 hz with hz | hz
          · exact hds z hz
          · rcases List.mem_cons.1 hz with rfl | hz
            · exact hy1
            · cases hz
        · rw [List.map_append]
          refine List.nodup_append.2 ⟨hnd, by simp, fun u hu v hv huv => ?_⟩
          simp at hv
          subst hv
          exact hy2 (huv ▸ hu)
        · rw [List.map_append, List.map_append, hkv]
          simp [hqk, hqv]
        · rw [← hsn]; simp
theorem j_entry {q : κ × β} [hx : EvO e x (.pointer (some ⟨b, 0, none⟩))] (hp : Pick (rangesR ke ve b r m (done ++ [q])) L L') (hd : Nat.blt d N = true) (h : J N ((d, .tuple #[ke q.1, ve q.2]) :: e) L F (wpList P ops Q rest)) :
    J N e L F (wpList P ops Q (⟨some d, .entry x, v1, p, af, none⟩ :: rest)) :=
  j_run rfl fun a w hf hs => by
    obtain ⟨M, ⟨es, clk, ds, st, hm, hst, hds, hnd, hkv, hcl, rfl⟩, hs1⟩ := hs.exs (rangesR_eq ke ve b r m (done ++ [q])) hp
    have hst2 := hcl (by simp)
    subst hst2
    have hb : w.heap[b]? = some (.mapIter (some r) st (ds.map (·.born)).toArray st) := Sat.obj (fun _ _ _ h => by cases h) hs1
    have hr : w.heap[r]? = some (.map es st) := Sat.obj (L := objR b (.mapIter (some r) st (ds.map (·.born)).toArray st) :: L') (fun _ _ _ h => by cases h) (hs1.le (LE.pick (.there .here) (LE.refl _)))
    have hlen : ds.length = done.length + 1 := by have := congrArg List.length hkv; simpa using this
    obtain ⟨ds', y, rfl⟩ : ∃ ds' y, ds = ds' ++ [y] := ⟨ds.dropLast, ds.getLast (by intro hh; rw [hh] at hlen; simp at hlen), (List.dropLast_concat_getLast _).symm⟩
    rw [List.map_append, List.map_append] at hkv
    have hy := (List.append_inj' hkv rfl).2
    simp only [List.map_cons, List.map_nil, List.cons.injEq, Prod.mk.injEq, and_true] at hy
    have hsn : ((ds' ++ [y]).map (fun x : MapEntry => x.born)).toArray = ((ds'.map (fun x : MapEntry => x.born)).toArray).push y.born := by simp
    rw [hsn] at hb
    have hrun := run_entry_at (P := P) w b r st _ es st y hb hr (hds y (by simp)) hm.born
    refine ⟨_, w, ?_, h _ _ (hf.put hd _) hs⟩
    rw [← hy.1, ← hy.2]
    simp only [execOp, hx.out hf, Sem.run_bind, Sem.run_pure, Result.andThen_ok, hrun]
end maps
attribute [irreducible] objR rangesR
end Go.Proofs.YtcoohckdnefacaaDoor.S
