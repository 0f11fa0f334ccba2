/- world: an edit does just what its kind says, plainly -/
import Derived.Test.YtbmafpbjkeehaaaWZA
import Derived.Test.YtbmafpbjkeehaaaWZC
namespace Go.Proofs.Ytbmafpbjkeehaaa.S
open Go.RowKit
set_option linter.unusedVariables false
set_option linter.unusedSimpArgs false
set_option maxRecDepth 100000
set_option maxHeartbeats 1000000
/-- The puts of a trace. -/
def putsOf (cs : List CP) : List Blb := (cs.filter fun c => decide (c.kind = 2)).map fun c => ⟨c.name, c.blob⟩
/-- What lies behind a world's calls, from an empty store on, without edits. -/
structure Hist (σ : Wd) : Prop where
  told : Told [] σ
  puts : σ.puts = putsOf σ.trace
  objs : applyC σ.chg = σ.objs
  mlen : σ.marks.length = σ.trace.length
  marks : ∀ (i : Nat) (z : Int), σ.marks[i]? = some z → ∃ n : Nat, z = n ∧ n ≤ σ.chg.length ∧ ((applyC (σ.chg.take n)).map prB).Perm (replF [] (σ.trace.take i))
theorem hist_marks {σ : Wd} (h : Hist σ) : marksOK σ := fun i z hi => let ⟨n, h1, h2, _⟩ := h.marks i z hi; ⟨n, h1, h2⟩
theorem putR_nonneg : ∀ (cs : List Cal) (n : Nat), n ≤ 9223372036854775807 → (putRC cs (n : Int)).map (fun c => (⟨c.name, c.blob⟩ : Blb)) = (putsOf (cs.map Cal.pl))[n]?
  | [], n, _ => rfl
  | c :: cs, n, hn => by
    unfold putRC putsOf
    rw [List.map_cons, List.filter_cons]
    by_cases h2 : c.kind = 2
    · rw [if_pos h2, if_pos (show decide (c.pl.kind = 2) = true from decide_eq_true h2)]
      cases n with
      | zero => rw [if_pos (show ((0 : Nat) : Int) = 0 from rfl)]; rfl
      | succ n =>
        rw [if_neg (by omega), IntWalk.i64_in _ (by omega), show ((n + 1 : Nat) : Int) - 1 = (n : Int) by omega, putR_nonneg cs n (by omega)]
        rfl
    · rw [if_neg h2, if_neg (by simpa using (show ¬ c.pl.kind = 2 from h2)), putR_nonneg cs n hn]
      rfl
theorem hold_set {σ : Wd} {l : List Blb} (n x : ByteArray) (h : Holds' σ l) : Holds' (setW σ n x) (havF l n x true) := by
  unfold havF
  rw [if_pos rfl]
  refine ⟨mput_nodup h.1, ?_⟩
  have h1 : ((mput σ.objs n x).map prB).Perm ((mdel σ.objs n ++ [(n, x)]).map prB) := (mput_perm'.symm).map prB
  refine h1.trans ?_
  rw [List.map_append, mdel_filter h.1]
  exact (filter_pr h.2).append (.refl _)
theorem hold_drop {σ : Wd} {l : List Blb} (n x : ByteArray) (h : Holds' σ l) : Holds' (dropW σ n) (havF l n x false) := by
  unfold havF
  rw [if_neg (by decide), List.append_nil]
  unfold dropW
  split
  · refine ⟨mdel_nodup h.1, ?_⟩
    show ((mdel σ.objs n).map prB).Perm _
    rw [mdel_filter h.1]
    exact filter_pr h.2
  · rename_i hno
    refine ⟨h.1, ?_⟩
    have hf : σ.objs.filter (fun p => decide (p.1 ≠ n)) = σ.objs := by
      rw [List.filter_eq_self]
      intro p hp
      simp only [ne_eq, decide_eq_true_eq]
      exact fun hh => hno (mem_keys.1 (List.mem_map.2 ⟨p, hp, hh⟩))
    have := filter_pr (n := n) h.2
    rw [hf] at this
    exact this
theorem hold_blob {σ : Wd} {l : List Blb} (n : ByteArray) (h : Holds' σ l) : blobF l n = ((mget σ.objs n).getD ⟨#[]⟩, (mget σ.objs n).isSome) := by
  unfold blobF
  rcases findR_cases n l 0 with h1 | ⟨k, y, h1, h2, h3⟩
  · rw [h1, if_pos (by decide)]
    cases hg : mget σ.objs n with
    | none => rfl
    | some s =>
      have hm : (⟨n, s⟩ : Blb) ∈ l := h.2.mem_iff.1 (List.mem_map.2 ⟨(n, s), (mem_mget h.1).2 hg, rfl⟩)
      obtain ⟨k, y, h4, _⟩ := findR_mem n l 0 ⟨_, hm, rfl⟩
      rw [h1] at h4
      omega
  · rw [h1, if_neg (by omega), Nat.zero_add, Int.toNat_natCast, h2]
    have hy := h.2.mem_iff.2 (List.mem_of_getElem? h2)
    obtain ⟨p, hp1, hp2⟩ := List.mem_map.1 hy
    have hyn : p.1 = n := by rw [← h3, ← hp2]; rfl
    have hg := (mem_mget h.1).1 (show (p.1, p.2) ∈ σ.objs from hp1)
    rw [hyn] at hg
    rw [hg, ← hp2]
    rfl
theorem names_perm {T : List (ByteArray × ByteArray)} (h : (keys T).Nodup) : T.Perm ((sortS (keys T)).map fun n => (n, (mget T n).getD bE)) := by
  have hn : (keys ((sortS (keys T)).map fun n => (n, (mget T n).getD bE))).Nodup := by
    unfold keys
    rw [List.map_map]
    have : ((fun x : ByteArray × ByteArray => x.1) ∘ fun n => (n, (mget T n).getD bE)) = id := rfl
    rw [this, List.map_id]
    exact sortS_mem.nodup_iff.2 h
  refine (List.perm_ext_iff_of_nodup (List.Pairwise.imp (fun hne he => hne (by rw [he])) (List.pairwise_map.1 h)) (List.Pairwise.imp (fun hne he => hne (by rw [he])) (List.pairwise_map.1 hn))).2 fun q => ?_
  obtain ⟨k, v⟩ := q
  rw [mem_mget h, List.mem_map]
  constructor
  · intro hg
    exact ⟨k, sortS_mem.mem_iff.2 (mem_keys.2 (by rw [hg]; rfl)), by rw [hg]; rfl⟩
  · rintro ⟨n, hn1, hn2⟩
    have h3 := Prod.mk.inj hn2
    have h4 : n = k := h3.1
    have h5 : (mget T n).getD bE = v := h3.2
    have hs := mem_keys.1 (sortS_mem.mem_iff.1 hn1)
    subst h4
    cases hg : mget T n with
    | none => rw [hg] at hs; cases hs
    | some s => rw [hg] at h5; exact congrArg some h5
theorem hold_self {σ : Wd} (h : (keys σ.objs).Nodup) : Holds' σ (dumpW σ) := by
  refine ⟨h, ?_⟩
  have h2 := (names_perm h).map prB
  rw [List.map_map] at h2
  exact h2
theorem laid_objs (T : List (ByteArray × ByteArray)) : ∀ (ns : List ByteArray) (ρ : Wd), ns.Nodup → (∀ n ∈ ns, n ∉ keys ρ.objs) → (ns.foldl (laidW T) ρ).objs = ρ.objs ++ ns.map fun n => (n, (mget T n).getD bE)
  | [], ρ, _, _ => by simp
  | n :: ns, ρ, hn, hk => by
    rw [List.nodup_cons] at hn
    have hgn : mget ρ.objs n = none := mget_none.2 (hk n List.mem_cons_self)
    have hobj : (laidW T ρ n).objs = ρ.objs ++ [(n, (mget T n).getD bE)] := mput_new hgn
    rw [List.foldl_cons, laid_objs T ns (laidW T ρ n) hn.2 (fun m hm hh => ?_), hobj, List.append_assoc]
    · rfl
    · rw [hobj] at hh
      unfold keys at hh
      rw [List.map_append, List.mem_append] at hh
      rcases hh with hh | hh
      · exact hk m (List.mem_cons_of_mem _ hm) hh
      · simp at hh
        exact hn.1 (hh ▸ hm)
theorem hold_restore {σ : Wd} {n : Nat} {l : List Blb} (h : ((applyC (σ.chg.take n)).map prB).Perm l) : Holds' (restoreW σ n) l := by
  have hT := applyC_nodup (σ.chg.take n)
  unfold Holds' restoreW
  generalize applyC (σ.chg.take n) = T at *
  rw [laid_objs T _ _ (sortS_mem.nodup_iff.2 hT) (fun m _ hh => by cases hh)]
  show (keys (([] : List (ByteArray × ByteArray)) ++ _)).Nodup ∧ ((([] : List (ByteArray × ByteArray)) ++ _).map prB).Perm l
  rw [List.nil_append]
  have hp := names_perm hT
  have hk : (keys T).Perm (keys ((sortS (keys T)).map fun n => (n, (mget T n).getD bE))) := hp.map Prod.fst
  exact ⟨hk.nodup_iff.1 hT, ((hp.map prB).symm).trans h⟩
theorem hold_swap {σ : Wd} {l : List Blb} (a b : ByteArray) (h : Holds' σ l) : Holds' (swapW σ a b) (havF (havF l a ((mget σ.objs b).getD ⟨#[]⟩) (mget σ.objs b).isSome) b ((mget σ.objs a).getD ⟨#[]⟩) (mget σ.objs a).isSome) := by
  have step : ∀ (ρ : Wd) (m : List Blb) (n x : ByteArray) (o : Bool), Holds' ρ m → Holds' (if o = true then setW ρ n x else dropW ρ n) (havF m n x o) := fun ρ m n x o hh => by
    cases o with
    | true => rw [if_pos rfl]; exact hold_set n x hh
    | false => rw [if_neg (by decide)]; exact hold_drop n x hh
  unfold swapW
  exact step _ _ _ _ _ (step _ _ _ _ _ h)
theorem put_eq {σ : Wd} (h : Hist σ) {cs : List Cal} (hcs : cs.map Cal.pl = σ.trace) {n : Int} (h0 : 0 ≤ n) (h1 : n ≤ 9223372036854775807) : putAt σ n = (putRC cs n).map fun c => (⟨c.name, c.blob⟩ : Blb) := by
  obtain ⟨k, rfl⟩ : ∃ k : Nat, n = k := ⟨n.toNat, by omega⟩
  unfold putAt
  rw [if_neg (by omega), Int.toNat_natCast, h.puts, ← hcs, putR_nonneg cs k (by omega)]
/-- What an edit makes of the store is what the law reckons. -/
theorem hold_edit {σ : Wd} (h : Hist σ) (cs : List Cal) (hcs : cs.map Cal.pl = σ.trace) (e : Edt) (hb : badE e = false) (hp : e.put ≤ 9223372036854775807) (hs : e.src ≤ 9223372036854775807) : Holds' (editW σ e) (editedF (dumpW σ) cs e) := by
  have hsf := hold_self h.told.1
  have hlen : cs.length = σ.trace.length := by rw [← hcs, List.length_map]
  by_cases c : e.kind = 1
  · unfold badE at hb
    rw [if_pos c, Bool.or_eq_false_iff, decide_eq_false_iff_not] at hb
    have ep := put_eq h hcs (n := e.put) (by omega) hp
    cases hq : putRC cs e.put with
    | none =>
      rw [hq] at ep
      have ep2 : putAt σ e.put = none := ep
      have eW : editW σ e = σ := by unfold editW; rw [ep2]; rw [if_neg (fun hh => by cases hh.2), if_neg (fun hh => by have := hh.1; omega), if_neg (fun hh => by have := hh.1; omega), if_neg (fun hh => by have := hh.1; omega), if_neg (fun hh => by have := hh.1; omega), if_neg (by omega)]
      have eL : editedF (dumpW σ) cs e = dumpW σ := by unfold editedF; rw [hq]; simp only; rw [if_neg (fun hh => by cases hh.2), if_neg (fun hh => by have := hh.1; omega), if_neg (fun hh => by have := hh.1; omega), if_neg (fun hh => by have := hh.1; omega), if_neg (fun hh => by have := hh.1; omega), if_neg (by omega)]
      rw [eW, eL]
      exact hsf
    | some a =>
      rw [hq] at ep
      have ep2 : putAt σ e.put = some ⟨a.name, a.blob⟩ := ep
      have eW : editW σ e = setW σ a.name e.blob := by unfold editW; rw [ep2]; rw [if_pos ⟨c, rfl⟩]; rfl
      have eL : editedF (dumpW σ) cs e = havF (dumpW σ) a.name e.blob true := by unfold editedF; rw [hq]; simp only; rw [if_pos ⟨c, rfl⟩]; rfl
      rw [eW, eL]
      exact hold_set a.name e.blob hsf
  have n1 := c
  clear c
  by_cases c : e.kind = 2
  · unfold badE at hb
    rw [if_neg (by omega), if_pos c, decide_eq_false_iff_not] at hb
    have ep := put_eq h hcs (n := e.put) (by omega) hp
    cases hq : putRC cs e.put with
    | none =>
      rw [hq] at ep
      have ep2 : putAt σ e.put = none := ep
      have eW : editW σ e = σ := by unfold editW; rw [ep2]; rw [if_neg (fun hh => by have := hh.1; omega), if_neg (fun hh => by cases hh.2), if_neg (fun hh => by have := hh.1; omega), if_neg (fun hh => by have := hh.1; omega), if_neg (fun hh => by have := hh.1; omega), if_neg (by omega)]
      have eL : editedF (dumpW σ) cs e = dumpW σ := by unfold editedF; rw [hq]; simp only; rw [if_neg (fun hh => by have := hh.1; omega), if_neg (fun hh => by cases hh.2), if_neg (fun hh => by have := hh.1; omega), if_neg (fun hh => by have := hh.1; omega), if_neg (fun hh => by have := hh.1; omega), if_neg (by omega)]
      rw [eW, eL]
      exact hsf
    | some a =>
      rw [hq] at ep
      have ep2 : putAt σ e.put = some ⟨a.name, a.blob⟩ := ep
      have eW : editW σ e = dropW σ a.name := by unfold editW; rw [ep2]; rw [if_neg (fun hh => by have := hh.1; omega), if_pos ⟨c, rfl⟩]; rfl
      have eL : editedF (dumpW σ) cs e = havF (dumpW σ) a.name ⟨#[]⟩ false := by unfold editedF; rw [hq]; simp only; rw [if_neg (fun hh => by have := hh.1; omega), if_pos ⟨c, rfl⟩]; rfl
      rw [eW, eL]
      exact hold_drop a.name _ hsf
  have n2 := c
  clear c
  by_cases c : e.kind = 3
  · unfold badE at hb
    rw [if_neg (by omega), if_neg (by omega), if_pos (.inl c), decide_eq_false_iff_not] at hb
    have ep := put_eq h hcs (n := e.put) (by omega) hp
    have es := put_eq h hcs (n := e.src) (by omega) hs
    cases hq : putRC cs e.put with
    | none =>
      rw [hq] at ep
      have ep2 : putAt σ e.put = none := ep
      have eW : editW σ e = σ := by unfold editW; rw [ep2]; rw [if_neg (fun hh => by have := hh.1; omega), if_neg (fun hh => by have := hh.1; omega), if_neg (fun hh => by cases hh.2.1), if_neg (fun hh => by have := hh.1; omega), if_neg (fun hh => by have := hh.1; omega), if_neg (by omega)]
      have eL : editedF (dumpW σ) cs e = dumpW σ := by unfold editedF; rw [hq]; simp only; rw [if_neg (fun hh => by have := hh.1; omega), if_neg (fun hh => by have := hh.1; omega), if_neg (fun hh => by cases hh.2.1), if_neg (fun hh => by have := hh.1; omega), if_neg (fun hh => by have := hh.1; omega), if_neg (by omega)]
      rw [eW, eL]
      exact hsf
    | some a =>
      rw [hq] at ep
      have ep2 : putAt σ e.put = some ⟨a.name, a.blob⟩ := ep
      cases hq2 : putRC cs e.src with
      | none =>
        rw [hq2] at es
        have es2 : putAt σ e.src = none := es
        have eW : editW σ e = σ := by unfold editW; rw [es2]; rw [if_neg (fun hh => by have := hh.1; omega), if_neg (fun hh => by have := hh.1; omega), if_neg (fun hh => by cases hh.2.2), if_neg (fun hh => by have := hh.1; omega), if_neg (fun hh => by have := hh.1; omega), if_neg (by omega)]
        have eL : editedF (dumpW σ) cs e = dumpW σ := by unfold editedF; rw [hq2]; simp only; rw [if_neg (fun hh => by have := hh.1; omega), if_neg (fun hh => by have := hh.1; omega), if_neg (fun hh => by cases hh.2.2), if_neg (fun hh => by have := hh.1; omega), if_neg (fun hh => by have := hh.1; omega), if_neg (by omega)]
        rw [eW, eL]
        exact hsf
      | some b =>
        rw [hq2] at es
        have es2 : putAt σ e.src = some ⟨b.name, b.blob⟩ := es
        have eW : editW σ e = swapW σ a.name b.name := by unfold editW; rw [ep2, es2]; rw [if_neg (fun hh => by have := hh.1; omega), if_neg (fun hh => by have := hh.1; omega), if_pos ⟨c, rfl, rfl⟩]; rfl
        have eL : editedF (dumpW σ) cs e = havF (havF (dumpW σ) a.name (blobF (dumpW σ) b.name).1 (blobF (dumpW σ) b.name).2) b.name (blobF (dumpW σ) a.name).1 (blobF (dumpW σ) a.name).2 := by unfold editedF; rw [hq, hq2]; simp only; rw [if_neg (fun hh => by have := hh.1; omega), if_neg (fun hh => by have := hh.1; omega), if_pos ⟨c, rfl, rfl⟩]; rfl
        rw [eW, eL]
        rw [hold_blob a.name hsf, hold_blob b.name hsf]
        exact hold_swap a.name b.name hsf
  have n3 := c
  clear c
  by_cases c : e.kind = 4
  · unfold badE at hb
    rw [if_neg (by omega), if_neg (by omega), if_pos (.inr c), decide_eq_false_iff_not] at hb
    have ep := put_eq h hcs (n := e.put) (by omega) hp
    have es := put_eq h hcs (n := e.src) (by omega) hs
    cases hq : putRC cs e.put with
    | none =>
      rw [hq] at ep
      have ep2 : putAt σ e.put = none := ep
      have eW : editW σ e = σ := by unfold editW; rw [ep2]; rw [if_neg (fun hh => by have := hh.1; omega), if_neg (fun hh => by have := hh.1; omega), if_neg (fun hh => by have := hh.1; omega), if_neg (fun hh => by cases hh.2.1), if_neg (fun hh => by have := hh.1; omega), if_neg (by omega)]
      have eL : editedF (dumpW σ) cs e = dumpW σ := by unfold editedF; rw [hq]; simp only; rw [if_neg (fun hh => by have := hh.1; omega), if_neg (fun hh => by have := hh.1; omega), if_neg (fun hh => by have := hh.1; omega), if_neg (fun hh => by cases hh.2.1), if_neg (fun hh => by have := hh.1; omega), if_neg (by omega)]
      rw [eW, eL]
      exact hsf
    | some a =>
      rw [hq] at ep
      have ep2 : putAt σ e.put = some ⟨a.name, a.blob⟩ := ep
      cases hq2 : putRC cs e.src with
      | none =>
        rw [hq2] at es
        have es2 : putAt σ e.src = none := es
        have eW : editW σ e = σ := by unfold editW; rw [es2]; rw [if_neg (fun hh => by have := hh.1; omega), if_neg (fun hh => by have := hh.1; omega), if_neg (fun hh => by have := hh.1; omega), if_neg (fun hh => by cases hh.2.2), if_neg (fun hh => by have := hh.1; omega), if_neg (by omega)]
        have eL : editedF (dumpW σ) cs e = dumpW σ := by unfold editedF; rw [hq2]; simp only; rw [if_neg (fun hh => by have := hh.1; omega), if_neg (fun hh => by have := hh.1; omega), if_neg (fun hh => by have := hh.1; omega), if_neg (fun hh => by cases hh.2.2), if_neg (fun hh => by have := hh.1; omega), if_neg (by omega)]
        rw [eW, eL]
        exact hsf
      | some b =>
        rw [hq2] at es
        have es2 : putAt σ e.src = some ⟨b.name, b.blob⟩ := es
        have eW : editW σ e = setW σ a.name b.blob := by unfold editW; rw [ep2, es2]; rw [if_neg (fun hh => by have := hh.1; omega), if_neg (fun hh => by have := hh.1; omega), if_neg (fun hh => by have := hh.1; omega), if_pos ⟨c, rfl, rfl⟩]; rfl
        have eL : editedF (dumpW σ) cs e = havF (dumpW σ) a.name b.blob true := by unfold editedF; rw [hq, hq2]; simp only; rw [if_neg (fun hh => by have := hh.1; omega), if_neg (fun hh => by have := hh.1; omega), if_neg (fun hh => by have := hh.1; omega), if_pos ⟨c, rfl, rfl⟩]; rfl
        rw [eW, eL]
        exact hold_set a.name b.blob hsf
  have n4 := c
  clear c
  by_cases c : e.kind = 5
  · unfold badE at hb
    rw [if_neg n1, if_neg n2, if_neg (by omega), if_pos c, decide_eq_false_iff_not] at hb
    obtain ⟨j, hj⟩ : ∃ j : Nat, e.src = j := ⟨e.src.toNat, by omega⟩
    by_cases g : e.src < (cs.length : Int)
    · have hx := List.getElem?_eq_getElem (show j < σ.marks.length by rw [h.mlen]; omega)
      obtain ⟨n, hn1, hn2, hn3⟩ := h.marks j _ hx
      rw [hn1] at hx
      have eW : editW σ e = restoreW σ n := by
        unfold editW
        rw [if_neg (fun hh => by have := hh.1; omega), if_neg (fun hh => by have := hh.1; omega), if_neg (fun hh => by have := hh.1; omega), if_neg (fun hh => by have := hh.1; omega), if_pos ⟨c, by rw [h.mlen]; omega⟩, hj, Int.toNat_natCast, hx]
        rfl
      have eL : editedF (dumpW σ) cs e = replF [] (σ.trace.take j) := by
        unfold editedF
        simp only
        rw [if_neg (fun hh => by have := hh.1; omega), if_neg (fun hh => by have := hh.1; omega), if_neg (fun hh => by have := hh.1; omega), if_neg (fun hh => by have := hh.1; omega), if_pos ⟨c, g⟩, hj, Int.toNat_natCast, List.map_take, hcs]
      rw [eW, eL]
      exact hold_restore hn3
    · have eW : editW σ e = σ := by unfold editW; rw [if_neg (fun hh => by have := hh.1; omega), if_neg (fun hh => by have := hh.1; omega), if_neg (fun hh => by have := hh.1; omega), if_neg (fun hh => by have := hh.1; omega), if_neg (fun hh => g (by have := hh.2; rw [h.mlen] at this; omega)), if_neg (by omega)]
      have eL : editedF (dumpW σ) cs e = dumpW σ := by unfold editedF; simp only; rw [if_neg (fun hh => by have := hh.1; omega), if_neg (fun hh => by have := hh.1; omega), if_neg (fun hh => by have := hh.1; omega), if_neg (fun hh => by have := hh.1; omega), if_neg (fun hh => g hh.2), if_neg (by omega)]
      rw [eW, eL]
      exact hsf
  have n5 := c
  clear c
  by_cases c : e.kind = 6
  · have eW : editW σ e = setW σ e.name e.blob := by unfold editW; rw [if_neg (fun hh => by have := hh.1; omega), if_neg (fun hh => by have := hh.1; omega), if_neg (fun hh => by have := hh.1; omega), if_neg (fun hh => by have := hh.1; omega), if_neg (fun hh => by have := hh.1; omega), if_pos c]
    have eL : editedF (dumpW σ) cs e = havF (dumpW σ) e.name e.blob true := by unfold editedF; simp only; rw [if_neg (fun hh => by have := hh.1; omega), if_neg (fun hh => by have := hh.1; omega), if_neg (fun hh => by have := hh.1; omega), if_neg (fun hh => by have := hh.1; omega), if_neg (fun hh => by have := hh.1; omega), if_pos c]
    rw [eW, eL]
    exact hold_set e.name e.blob hsf
  · have eW : editW σ e = σ := by unfold editW; rw [if_neg (fun hh => by have := hh.1; omega), if_neg (fun hh => by have := hh.1; omega), if_neg (fun hh => by have := hh.1; omega), if_neg (fun hh => by have := hh.1; omega), if_neg (fun hh => by have := hh.1; omega), if_neg c]
    have eL : editedF (dumpW σ) cs e = dumpW σ := by unfold editedF; simp only; rw [if_neg (fun hh => by have := hh.1; omega), if_neg (fun hh => by have := hh.1; omega), if_neg (fun hh => by have := hh.1; omega), if_neg (fun hh => by have := hh.1; omega), if_neg (fun hh => by have := hh.1; omega), if_neg c]
    rw [eW, eL]
    exact hsf
end Go.Proofs.Ytbmafpbjkeehaaa.S
