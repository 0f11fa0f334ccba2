/- exec: the reference does what the code does -/
import Derived.Test.YtcoohckdnefacaaDoorXT
namespace Go.Proofs.YtcoohckdnefacaaDoor.S
open Go.RowKit
set_option linter.unusedVariables false
set_option linter.unusedSimpArgs false
set_option maxRecDepth 100000
set_option maxHeartbeats 4000000
abbrev tl (p : Int × ByteArray) : Int × List UInt8 := (p.1, p.2.data.toList)
theorem mget_mem {β : Type} {m : List (Int × β)} {k : Int} {s : β} (h : mget m k = some s) : (k, s) ∈ m := (mget_perm h).symm.subset List.mem_cons_self
theorem keys_mem {β : Type} {m : List (Int × β)} {p : Int × β} (h : p ∈ m) : p.1 ∈ keys m := List.mem_map.2 ⟨p, h, rfl⟩
theorem mem_mget {β : Type} : ∀ {m : List (Int × β)} {k : Int} {s : β}, (keys m).Nodup → (k, s) ∈ m → mget m k = some s
  | [], k, s, _, h => by cases h
  | (q, x) :: m, k, s, hn, h => by
    have hn' : (q :: keys m).Nodup := hn
    rcases List.mem_cons.1 h with h | h
    · cases h
      exact if_pos rfl
    · have hq : q ≠ k := fun hh => (List.nodup_cons.1 hn').1 (by rw [hh]; exact keys_mem h)
      show (if q = k then some x else mget m k) = some s
      rw [if_neg hq]
      exact mem_mget (List.nodup_cons.1 hn').2 h
theorem mget_of_perm {β : Type} {l m : List (Int × β)} (hp : l.Perm m) (hn : (keys m).Nodup) (k : Int) : mget l k = mget m k := by
  have hk : (keys l).Perm (keys m) := hp.map _
  have hn2 : (keys l).Nodup := hk.nodup_iff.2 hn
  cases h : mget m k with
  | some s => exact mem_mget hn2 (hp.symm.subset (mget_mem h))
  | none =>
    cases h2 : mget l k with
    | none => rfl
    | some s =>
      have := mem_mget hn (hp.subset (mget_mem h2))
      rw [h] at this
      cases this
theorem mget_tl {l : RL} {k : Int} : mget (l.map tl) k = (mget l k).map (·.data.toList) := by
  induction l with
  | nil => rfl
  | cons p l ih =>
    obtain ⟨q, x⟩ := p
    show (if q = k then some x.data.toList else mget (l.map tl) k) = Option.map _ (if q = k then some x else mget l k)
    split
    · rfl
    · exact ih
theorem mdel_filter' {β : Type} : ∀ {m : List (Int × β)} {k : Int}, (keys m).Nodup → mdel m k = m.filter fun p => decide (p.1 ≠ k)
  | [], k, _ => rfl
  | (q, x) :: m, k, hn => by
    have hn' : (q :: keys m).Nodup := hn
    by_cases hq : q = k
    · subst hq
      rw [show mdel ((q, x) :: m) q = m from if_pos rfl, List.filter_cons_of_neg (by simp)]
      refine (List.filter_eq_self.2 fun p hp => ?_).symm
      have : p.1 ≠ q := fun hh => (List.nodup_cons.1 hn').1 (by rw [← hh]; exact keys_mem hp)
      simpa using this
    · rw [show mdel ((q, x) :: m) k = (q, x) :: mdel m k from if_neg hq, List.filter_cons_of_pos (by simpa using hq), mdel_filter' (List.nodup_cons.1 hn').2]
theorem wo_tl (l : RL) (n : Int) : (wo l n).map tl = (l.map tl).filter fun p => decide (p.1 ≠ n) := by
  unfold wo
  rw [List.filter_map]
  rfl
/-- The two lists of live files tell the same. -/
structure Rel (l : RL) (m : Live) : Prop where
  perm : (l.map tl).Perm m
  nodup : (keys m).Nodup
  pos : ∀ p ∈ m, 0 ≤ p.1
theorem Rel.get {l : RL} {m : Live} (h : Rel l m) (k : Int) : mget m k = (mget l k).map (·.data.toList) := by
  rw [← mget_of_perm h.perm h.nodup k, mget_tl]
theorem Rel.isSome {l : RL} {m : Live} (h : Rel l m) (k : Int) : (mget m k).isSome = (mget l k).isSome := by
  rw [h.get]; cases mget l k <;> rfl
theorem Rel.del {l : RL} {m : Live} (h : Rel l m) (k : Int) : Rel (wo l k) (mdel m k) := by
  refine ⟨?_, mdel_nodup h.nodup, fun p hp => h.pos p ?_⟩
  · rw [wo_tl, mdel_filter' h.nodup]
    exact h.perm.filter _
  · rw [mdel_filter' h.nodup] at hp
    exact (List.mem_filter.1 hp).1
theorem Rel.put {l : RL} {m : Live} (h : Rel l m) (k : Int) (t : ByteArray) (hk : 0 ≤ k) : Rel (wo l k ++ [(k, t)]) (mput m k t.data.toList) := by
  have hd := h.del k
  refine ⟨?_, mput_nodup h.nodup, fun p hp => ?_⟩
  · rw [List.map_append]
    refine List.Perm.trans ?_ mput_perm
    refine List.Perm.trans (List.perm_append_comm) ?_
    exact (hd.perm.cons _)
  · have := (mput_perm (m := m) (k := k) (s := t.data.toList)).symm.subset hp
    rcases List.mem_cons.1 this with rfl | hp
    · exact hk
    · exact hd.pos p hp
theorem Rel.key {l : RL} {m : Live} (h : Rel l m) {k : Int} (hk : (mget m k).isSome = true) : 0 ≤ k := by
  cases hg : mget m k with
  | none => rw [hg] at hk; cases hk
  | some s => exact h.pos _ (mget_mem hg)
def Agree {β : Type} (a : Option (RL × β)) (b : Option (Live × β)) : Prop := match a, b with
  | none, none => True
  | some (l, x), some (m, y) => Rel l m ∧ x = y
  | _, _ => False
theorem rd_agree {l : RL} {m : Live} (h : Rel l m) (e : Eff) {s : ByteArray} (hg : mget l e.file = some s) : Agree ((rdR s e).map fun t => (l, t)) (readS m e) := by
  have hm : mget m e.file = some s.data.toList := by rw [h.get, hg]; rfl
  unfold readS rdR
  rw [hm]
  dsimp only [Option.getD_some]
  have hss := dsize s
  by_cases c1 : e.size ≠ s.size ∨ e.at_ < 0 ∨ e.n < 0
  · rw [if_pos c1, if_pos (by rw [hss]; omega)]
    exact trivial
  · rw [if_neg c1, if_neg (show ¬ (e.size ≠ (s.data.toList.length : Int) ∨ min e.at_ e.n < 0) by rw [hss]; omega)]
    by_cases c2 : e.n = 0
    · rw [if_pos c2, if_pos c2]
      exact ⟨h, rfl⟩
    · rw [if_neg c2, if_neg c2]
      by_cases c3 : (s.size : Int) < e.at_ ∨ (s.size : Int) - e.at_ < e.n
      · rw [if_pos c3, if_pos (by rw [hss]; exact c3)]
        exact trivial
      · rw [if_neg c3, if_neg (by rw [hss]; exact c3)]
        refine ⟨h, ba_ext ?_⟩
        rw [ext_list, bstr_list, Nat.add_sub_cancel_left]
theorem ch_agree {l : RL} {m : Live} (h : Rel l m) (e : Eff) (hk : e.kind = 3 ∨ e.kind = 4) {s : ByteArray} (hg : mget l e.file = some s) : Agree ((chR s e).map fun t => (wo l e.file ++ [(e.file, t)], bE)) (if e.kind = 3 then writeS m e else cutS m e) := by
  have hm : mget m e.file = some s.data.toList := by rw [h.get, hg]; rfl
  have h0 : 0 ≤ e.file := h.key (by rw [hm]; rfl)
  have hss := dsize s
  unfold chR
  rcases hk with hk | hk
  · rw [if_neg (by omega), if_pos hk]
    unfold writeS
    rw [hm]
    dsimp only [Option.getD_some]
    by_cases c1 : e.at_ < 0 ∨ 65536 < e.at_ ∨ 65536 < e.at_ + e.data.size
    · rw [if_pos c1, if_pos (by omega)]
      exact trivial
    · rw [if_neg c1, if_neg (show ¬ (e.at_ < 0 ∨ 65536 < e.at_ ∨ 65536 - e.at_ < (e.data.size : Int)) by omega)]
      have hw : (writtenB s e.at_.toNat e.data).size = (writeF s.data.toList e.at_.toNat e.data.data.toList).length := by unfold writtenB; rw [bstr_size]
      rw [hw]
      by_cases c2 : ((writeF s.data.toList e.at_.toNat e.data.data.toList).length : Int) = e.size
      · rw [if_pos c2, if_pos c2]
        refine ⟨?_, rfl⟩
        have := h.put e.file (writtenB s e.at_.toNat e.data) h0
        unfold writtenB at this ⊢
        rwa [bstr_list] at this
      · rw [if_neg c2, if_neg c2]
        exact trivial
  · rw [if_pos hk, if_neg (show ¬ e.kind = 3 by omega)]
    unfold cutS
    rw [hm]
    dsimp only [Option.getD_some]
    by_cases c1 : e.n < 0 ∨ 65536 < e.n ∨ e.size ≠ e.n
    · rw [if_pos c1, if_pos c1]
      exact trivial
    · rw [if_neg c1, if_neg c1]
      refine ⟨?_, rfl⟩
      have := h.put e.file (cutB s e.n.toNat) h0
      unfold cutB at this ⊢
      rwa [bstr_list] at this
theorem st_agree {l : RL} {m : Live} (h : Rel l m) (e : Eff) : Agree (stR l e) (stepS m e) := by
  unfold stR stepS
  have hi := h.isSome e.file
  have hi2 := h.isSome e.gone
  by_cases k1 : e.kind = 1
  · rw [if_pos k1, if_pos k1]
    unfold madeS
    rw [hi]
    by_cases c1 : (mget l e.file).isSome = true ∨ e.file < 0
    · rw [if_pos c1, if_pos c1]; exact trivial
    · rw [if_neg c1, if_neg c1]
      exact ⟨h.put e.file bE (by omega), rfl⟩
  rw [if_neg k1, if_neg k1]
  by_cases k6 : e.kind = 6
  · rw [if_neg (show ¬ e.kind = 2 by omega), if_neg (show ¬ (e.kind = 3 ∨ e.kind = 4) by omega), if_neg (show ¬ e.kind = 5 by omega), if_pos k6, if_pos k6]
    unfold overS
    rw [hi2]
    split
    · exact ⟨h.del _, rfl⟩
    · exact trivial
  rw [if_neg k6, if_neg k6]
  cases hg : mget l e.file with
  | none =>
    rw [hg] at hi
    have hn : (mget m e.file).isNone = true := by rw [← Option.not_isSome, hi]; rfl
    rw [if_pos hn]
    dsimp only
    repeat' split
    all_goals first | exact trivial | (rename_i hh; cases hh) | omega
  | some s =>
    have hn : ¬ (mget m e.file).isNone = true := by rw [h.get, hg]; simp
    rw [if_neg hn]
    dsimp only
    by_cases k2 : e.kind = 2
    · rw [if_pos k2, if_pos k2]
      exact rd_agree h e hg
    rw [if_neg k2, if_neg k2]
    by_cases k3 : e.kind = 3 ∨ e.kind = 4
    · rw [if_pos k3]
      have := ch_agree h e k3 hg
      by_cases k33 : e.kind = 3
      · rw [if_pos k33] at this ⊢; exact this
      · rw [if_neg k33] at this ⊢
        rw [if_pos (by omega)]
        exact this
    · rw [if_neg k3, if_neg (fun hh => k3 (.inl hh)), if_neg (fun hh => k3 (.inr hh))]
      by_cases k5 : e.kind = 5
      · rw [if_pos k5, if_pos k5, if_pos (by rfl)]
        exact ⟨h.del _, rfl⟩
      · rw [if_neg k5, if_neg k5]
        exact trivial
theorem run_agree : ∀ (steps : List (RP × Eff)) (l : RL) (m : Live) (rs : List RP), Rel l m → Agree (steps.foldlM runRS (l, rs)) (steps.foldlM runStep (m, rs))
  | [], l, m, rs, h => ⟨h, rfl⟩
  | s :: steps, l, m, rs, h => by
    rw [List.foldlM_cons, List.foldlM_cons]
    by_cases c : s.1.code = 0 ∧ s.2.kind ≠ 0
    · rw [runRS_yes c, runStep_yes c]
      have hst := st_agree h s.2
      dsimp only
      generalize stR l s.2 = a at *
      generalize stepS m s.2 = b at *
      match a, b, hst with
      | none, none, _ => exact trivial
      | some (l', d), some (m', d'), ⟨hr, hd⟩ =>
        subst hd
        exact run_agree steps l' m' _ hr
    · rw [runRS_no c, runStep_no c]
      exact run_agree steps l m _ h
theorem fi_agree : ∀ (zs : List (Slt × ByteArray)) (l : RL) (m : Live), Rel l m → match zs.foldlM fiStep l, zs.foldlM beginStep m with
    | none, none => True
    | some l', some m' => Rel l' m'
    | _, _ => False
  | [], l, m, h => h
  | z :: zs, l, m, h => by
    rw [List.foldlM_cons, List.foldlM_cons]
    have hi := h.isSome z.1.was
    unfold fiStep beginStep
    by_cases c1 : z.1.was = -1 ∧ z.2 = bE
    · rw [if_pos c1, if_neg (by rintro (hh | hh | hh); omega; exact hh.2 c1.2; omega), if_neg (by omega)]
      exact fi_agree zs l m h
    · rw [if_neg c1]
      by_cases c2 : (mget m z.1.was).isSome = true ∨ z.1.was ≤ -1
      · rw [if_pos c2, if_pos]
        · exact trivial
        · by_cases c3 : z.1.was < -1
          · exact .inl c3
          · by_cases c4 : z.1.was = -1
            · exact .inr (.inl ⟨c4, fun hh => c1 ⟨c4, hh⟩⟩)
            · refine .inr (.inr ⟨by omega, ?_⟩)
              rw [← hi]
              rcases c2 with c2 | c2
              · exact c2
              · omega
      · have c3 : 0 ≤ z.1.was := by omega
        have c4 : mget l z.1.was = none := by
          cases hg : mget l z.1.was with
          | none => rfl
          | some s => rw [hg] at hi; exact absurd (.inl hi) c2
        rw [if_neg c2, if_neg (by rintro (hh | hh | hh); omega; omega; rw [c4] at hh; exact absurd hh.2 (by simp)), if_pos c3]
        refine fi_agree zs _ _ ?_
        have := h.put z.1.was z.2 c3
        have hw : wo l z.1.was = l := by
          unfold wo
          refine List.filter_eq_self.2 fun p hp => ?_
          have : p.1 ≠ z.1.was := fun hh => by
            have hm : ∀ (l : RL), mget l z.1.was = none → p ∈ l → False := by
              intro l
              induction l with
              | nil => intro _ hp; cases hp
              | cons q l ih =>
                obtain ⟨q1, q2⟩ := q
                intro hg hp
                by_cases hq : q1 = z.1.was
                · rw [show mget ((q1, q2) :: l) z.1.was = some q2 from if_pos hq] at hg; cases hg
                · rw [show mget ((q1, q2) :: l) z.1.was = mget l z.1.was from if_neg hq] at hg
                  rcases List.mem_cons.1 hp with rfl | hp
                  · exact hq hh
                  · exact ih hg hp
            exact hm l c4 hp
          simpa using this
        rwa [hw] at this
theorem mget_del {β : Type} {m : List (Int × β)} {k j : Int} (hn : (keys m).Nodup) : mget (mdel m k) j = if j = k then none else mget m j := by
  induction m with
  | nil => show none = _; split <;> rfl
  | cons p m ih =>
    obtain ⟨q, x⟩ := p
    have hn' : (q :: keys m).Nodup := hn
    by_cases hq : q = k
    · rw [show mdel ((q, x) :: m) k = m from if_pos hq]
      by_cases hj : j = k
      · rw [if_pos hj]
        refine mget_take fun p hp hh => (List.nodup_cons.1 hn').1 ?_
        rw [hq, ← hj, ← hh]
        exact keys_mem hp
      · rw [if_neg hj, show mget ((q, x) :: m) j = mget m j from if_neg (by omega)]
    · rw [show mdel ((q, x) :: m) k = (q, x) :: mdel m k from if_neg hq]
      show (if q = j then some x else mget (mdel m k) j) = if j = k then none else (if q = j then some x else mget m j)
      rw [ih (List.nodup_cons.1 hn').2]
      by_cases hj : q = j
      · rw [if_pos hj, if_pos hj, if_neg (by omega)]
      · rw [if_neg hj, if_neg hj]
theorem mdel_len {β : Type} {m : List (Int × β)} {k : Int} {s : β} (h : mget m k = some s) : (mdel m k).length + 1 = m.length := by
  have := (mget_perm h).length_eq
  rw [List.length_cons] at this
  omega
theorem la_agree (l : RL) (hpos : ∀ f, f < 0 → mget l f = none) : ∀ (slots : List Slt) (q : LaS) (mk : Live), (keys mk).Nodup → mk.length + q.files = l.length → (∀ f, f ≠ -1 → mget mk f = if ∃ p ∈ q.seen, p.file = f then none else (mget l f).map (·.data.toList)) →
    match slots.foldlM (laStep l) q, slots.foldlM endStep (mk, q.out) with
    | none, none => True
    | some q', some (mk', out) => q'.out = out ∧ (q'.files = l.length ↔ mk' = [])
    | _, _ => False
  | [], q, mk, hn, hlen, hg => ⟨rfl, by
      constructor
      · intro h; exact List.length_eq_zero_iff.1 (by omega)
      · rintro rfl; simpa using hlen⟩
  | s :: slots, q, mk, hn, hlen, hg => by
    rw [List.foldlM_cons, List.foldlM_cons]
    unfold laStep endStep
    dsimp only
    by_cases c1 : s.file < -1
    · rw [if_pos c1, if_neg (by omega)]
      have h1 := hg s.file (by omega)
      rw [hpos s.file (by omega)] at h1
      have h2 : mget mk s.file = none := by rw [h1]; split <;> rfl
      rw [h2]
      exact trivial
    rw [if_neg c1]
    by_cases c2 : s.file = -1
    · rw [if_pos c2, if_pos c2]
      refine la_agree l hpos slots ⟨q.seen ++ [s], q.out ++ [bE], q.files⟩ mk hn hlen fun f hf => ?_
      rw [hg f hf]
      have : (∃ p ∈ q.seen ++ [s], p.file = f) ↔ ∃ p ∈ q.seen, p.file = f := by
        constructor
        · rintro ⟨p, hp, hpf⟩
          rcases List.mem_append.1 hp with hp | hp
          · exact ⟨p, hp, hpf⟩
          · simp at hp; subst hp; omega
        · rintro ⟨p, hp, hpf⟩
          exact ⟨p, List.mem_append_left _ hp, hpf⟩
      simp only [this]
    rw [if_neg c2, if_neg c2]
    have h1 := hg s.file c2
    by_cases c3 : ∃ p ∈ q.seen, p.file = s.file
    · rw [if_pos c3] at h1
      rw [if_pos c3, h1]
      exact trivial
    · rw [if_neg c3] at h1
      rw [if_neg c3, h1]
      cases hgl : mget l s.file with
      | none => exact trivial
      | some t =>
        rw [hgl] at h1
        have h1' : mget mk s.file = some t.data.toList := h1
        have hr := la_agree l hpos slots ⟨q.seen ++ [s], q.out ++ [t], q.files + 1⟩ (mdel mk s.file) (mdel_nodup hn) (by have := mdel_len h1'; show _ + (q.files + 1) = _; omega) fun f hf => by
          rw [mget_del hn, hg f hf]
          by_cases hfs : f = s.file
          · rw [if_pos hfs, if_pos ⟨s, by simp, hfs.symm⟩]
          · rw [if_neg hfs]
            have : (∃ p ∈ q.seen ++ [s], p.file = f) ↔ ∃ p ∈ q.seen, p.file = f := by
              constructor
              · rintro ⟨p, hp, hpf⟩
                rcases List.mem_append.1 hp with hp | hp
                · exact ⟨p, hp, hpf⟩
                · simp at hp; subst hp; exact absurd hpf.symm hfs
              · rintro ⟨p, hp, hpf⟩
                exact ⟨p, List.mem_append_left _ hp, hpf⟩
            simp only [this]
        have hb : bstr t.data.toList = t := bstr_self t
        show (match (slots.foldlM (laStep l) ⟨q.seen ++ [s], q.out ++ [t], q.files + 1⟩), (slots.foldlM endStep (mdel mk s.file, q.out ++ [bstr t.data.toList])) with
          | none, none => True
          | some q', some (mk', out) => q'.out = out ∧ (q'.files = l.length ↔ mk' = [])
          | _, _ => False)
        rw [hb]
        exact hr
theorem refApply_eq (slots : List Slt) (steps : List (RP × Eff)) (cs : List ByteArray) : refApply slots steps cs = applyF slots steps cs := by
  unfold refApply applyF
  have hfi : match fiR slots cs, beginF slots cs with
      | none, none => True
      | some l', some m' => Rel l' m'
      | _, _ => False := by
    unfold fiR beginF
    by_cases c : slots.length = cs.length
    · rw [if_pos c, if_pos c]
      exact fi_agree _ [] [] ⟨List.Perm.refl _, by simp [keys], fun p hp => by cases hp⟩
    · rw [if_neg c, if_neg c]
      exact trivial
  generalize fiR slots cs = a at *
  generalize beginF slots cs = b at *
  match a, b, hfi with
  | none, none, _ => rfl
  | some l, some m, h =>
    rw [Option.bind_some, Option.bind_some]
    have hra := run_agree steps l m [] h
    unfold runF
    generalize steps.foldlM runRS (l, []) = a at *
    generalize steps.foldlM runStep (m, []) = b at *
    match a, b, hra with
    | none, none, _ => rfl
    | some (l', rs), some (m', rs'), ⟨h', hrs⟩ =>
      subst hrs
      rw [Option.bind_some, Option.bind_some]
      dsimp only
      have hla := la_agree l' (fun f hf => by
        cases hg : mget l' f with
        | none => rfl
        | some s =>
          have := h'.key (k := f) (by rw [h'.isSome, hg]; rfl)
          omega) slots ⟨[], [], 0⟩ m' h'.nodup (by have := h'.perm.length_eq; rw [List.length_map] at this; show m'.length + 0 = _; omega) (fun f hf => by rw [h'.get, if_neg]; rintro ⟨p, hp, _⟩; cases hp)
      unfold laR endF
      dsimp only at hla
      generalize slots.foldlM (laStep l') ⟨[], [], 0⟩ = a at *
      generalize slots.foldlM endStep (m', []) = b at *
      match a, b, hla with
      | none, none, _ => rfl
      | some q, some (mk, out), ⟨h1, h2⟩ =>
        rw [Option.bind_some, Option.bind_some]
        dsimp only
        by_cases c : mk = []
        · rw [if_pos (h2.2 c), if_pos c, h1]
        · rw [if_neg (fun hh => c (h2.1 hh)), if_neg c]
end Go.Proofs.YtcoohckdnefacaaDoor.S
