/- world: what the trace tells, plainly -/
import Derived.Test.YtbmafpbjkeehaaaWQ
namespace Go.Proofs.Ytbmafpbjkeehaaa.S
open Go.RowKit Go.Sort Go.Proofs
set_option linter.unusedVariables false
set_option linter.unusedSimpArgs false
set_option maxRecDepth 100000
set_option maxHeartbeats 1000000
theorem mem_mget {κ β : Type} [DecidableEq κ] {m : List (κ × β)} (h : (keys m).Nodup) {k : κ} {x : β} : (k, x) ∈ m ↔ mget m k = some x := by
  induction m with
  | nil => simp [mget]
  | cons p m ih =>
    obtain ⟨q, y⟩ := p
    simp only [keys, List.map_cons, List.nodup_cons] at h
    have ih2 := ih h.2
    unfold mget
    by_cases hq : q = k
    · subst hq
      rw [if_pos rfl]
      constructor
      · intro hh
        rcases List.mem_cons.1 hh with hh | hh
        · rw [(Prod.mk.inj hh).2]
        · exact absurd (List.mem_map.2 ⟨_, hh, rfl⟩) h.1
      · intro hh
        injection hh with hh
        subst hh
        exact List.mem_cons_self
    · rw [if_neg hq, ← ih2, List.mem_cons]
      constructor
      · rintro (hh | hh)
        · exact absurd (Prod.mk.inj hh).1.symm hq
        · exact hh
      · exact .inr
theorem mdel_filter {κ β : Type} [DecidableEq κ] {m : List (κ × β)} {k : κ} (h : (keys m).Nodup) : mdel m k = m.filter fun p => decide (p.1 ≠ k) := by
  induction m with
  | nil => rfl
  | cons p m ih =>
    obtain ⟨q, y⟩ := p
    simp only [keys, List.map_cons, List.nodup_cons] at h
    unfold mdel
    by_cases hq : q = k
    · subst hq
      rw [if_pos rfl, List.filter_cons_of_neg (by simp)]
      have hf : m.filter (fun p => decide (p.1 ≠ q)) = m := by
        rw [List.filter_eq_self]
        intro p hp
        simp only [ne_eq, decide_eq_true_eq]
        exact fun hh => h.1 (List.mem_map.2 ⟨p, hp, hh⟩)
      exact hf.symm
    · rw [if_neg hq, List.filter_cons_of_pos (by simpa using hq), ih h.2]
theorem mput_perm' {κ β : Type} [DecidableEq κ] {m : List (κ × β)} {k : κ} {x : β} : (mdel m k ++ [(k, x)]).Perm (mput m k x) := by
  refine (List.perm_append_singleton _ _).trans ?_
  induction m with
  | nil => exact .refl _
  | cons p m ih =>
    obtain ⟨q, y⟩ := p
    unfold mdel mput
    by_cases hq : q = k
    · rw [if_pos hq, if_pos hq]
    · rw [if_neg hq, if_neg hq]
      exact (List.Perm.swap _ _ _).trans (ih.cons _)
def prB (p : ByteArray × ByteArray) : Blb := ⟨p.1, p.2⟩
/-- The store holds what the list says. -/
def Holds' (σ : Wd) (l : List Blb) : Prop := (keys σ.objs).Nodup ∧ (σ.objs.map prB).Perm l
theorem findR_mem (n : ByteArray) : ∀ (l : List Blb) (i : Nat), (∃ y ∈ l, y.name = n) → ∃ (k : Nat) (y : Blb), findR l n i = ((i + k : Nat) : Int) ∧ l[k]? = some y ∧ y.name = n
  | [], _, ⟨y, hy, _⟩ => by cases hy
  | x :: l, i, ⟨y, hy, hn⟩ => by
    unfold findR
    by_cases hx : x.name = n
    · exact ⟨0, x, by rw [if_pos hx]; rfl, rfl, hx⟩
    · rw [if_neg hx]
      obtain ⟨k, z, h1, h2, h3⟩ := findR_mem n l (i + 1) (by
        rcases List.mem_cons.1 hy with rfl | hy
        · exact absurd hn hx
        · exact ⟨y, hy, hn⟩)
      exact ⟨k + 1, z, by rw [h1]; congr 1; omega, by simpa using h2, h3⟩
theorem strB_inj {a b : List UInt8} (h : strB a = strB b) : a = b := by
  have := congrArg strL h
  exact this
theorem sortS_rise {l : List ByteArray} (hn : l.Nodup) (i : Nat) (x y : ByteArray) (hx : (sortS l)[i]? = some x) (hy : (sortS l)[i + 1]? = some y) : Op.bytesLess x.toList y.toList = true := by
  unfold sortS at hx hy
  generalize hM : (l.map strL).mergeSort (fun x y => decide (x ≤ y)) = M at hx hy
  have hp : M.Perm (l.map strL) := by rw [← hM]; exact List.mergeSort_perm _ _
  have hs : M.Pairwise fun a b => decide (a ≤ b) = true := by rw [← hM]; exact List.pairwise_mergeSort u8_trans u8_total _
  have hnd : M.Nodup := hp.nodup_iff.2 (List.pairwise_map.2 (hn.imp fun hne he => hne (strL_inj he)))
  rw [List.getElem?_map] at hx hy
  obtain ⟨a, ha, rfl⟩ := Option.map_eq_some_iff.1 hx
  obtain ⟨b, hb, rfl⟩ := Option.map_eq_some_iff.1 hy
  obtain ⟨h1, e1⟩ := List.getElem?_eq_some_iff.1 ha
  obtain ⟨h2, e2⟩ := List.getElem?_eq_some_iff.1 hb
  have hle : a ≤ b := by
    have := List.pairwise_iff_getElem.1 hs i (i + 1) h1 h2 (by omega)
    rw [e1, e2] at this
    exact of_decide_eq_true this
  have hne : a ≠ b := by
    have := List.pairwise_iff_getElem.1 hnd i (i + 1) h1 h2 (by omega)
    rwa [e1, e2] at this
  have e3 : (strB a).toList = a := by rw [ByteArray.toList_eq]; rfl
  have e4 : (strB b).toList = b := by rw [ByteArray.toList_eq]; rfl
  rw [e3, e4, bytesLess_eq]
  refine decide_eq_true ?_
  rw [← List.not_le]
  exact fun hh => hne (List.le_antisymm hle hh)
theorem alike_of {σ : Wd} {l : List Blb} (h : Holds' σ l) : AlikeOK (dumpW σ) l := by
  obtain ⟨hnd, hp⟩ := h
  have hnl : (l.map (·.name)).Nodup := by
    have h1 := hp.map (·.name)
    rw [List.map_map] at h1
    exact h1.nodup_iff.1 hnd
  refine ⟨?_, fun i x hx => ?_, fun i x y hx hy => ?_⟩
  · have := hp.length_eq
    rw [List.length_map] at this
    unfold dumpW
    rw [List.length_map, namesW_len, this]
  · unfold dumpW at hx
    rw [List.getElem?_map] at hx
    obtain ⟨n, hn, rfl⟩ := Option.map_eq_some_iff.1 hx
    have hs := names_mem.1 (List.mem_of_getElem? hn)
    cases hg : mget σ.objs n with
    | none => rw [hg] at hs; cases hs
    | some s =>
      have hm : (⟨n, s⟩ : Blb) ∈ l := hp.mem_iff.1 (List.mem_map.2 ⟨(n, s), (mem_mget hnd).2 hg, rfl⟩)
      obtain ⟨k, y, h1, h2, h3⟩ := findR_mem n l 0 ⟨_, hm, rfl⟩
      refine ⟨k, y, by rw [h1, Nat.zero_add], h2, ?_⟩
      have hy := hp.mem_iff.2 (List.mem_of_getElem? h2)
      obtain ⟨p, hp1, hp2⟩ := List.mem_map.1 hy
      have hyn : p.1 = n := by rw [← h3, ← hp2]; rfl
      have hg2 := (mem_mget hnd).1 (show (p.1, p.2) ∈ σ.objs from hp1)
      rw [hyn, hg] at hg2
      rw [← hp2]
      exact (Option.some.inj hg2).symm
  · unfold dumpW at hx hy
    rw [List.getElem?_map] at hx hy
    obtain ⟨n, hn, rfl⟩ := Option.map_eq_some_iff.1 hx
    obtain ⟨n', hn', rfl⟩ := Option.map_eq_some_iff.1 hy
    exact sortS_rise hnd i n n' hn hn'
theorem filter_pr {m : List (ByteArray × ByteArray)} {l : List Blb} {n : ByteArray} (h : (m.map prB).Perm l) : ((m.filter fun p => decide (p.1 ≠ n)).map prB).Perm (l.filter fun x => decide (x.name ≠ n)) := by
  have h1 := h.filter fun x => decide (x.name ≠ n)
  rw [List.filter_map] at h1
  exact h1
theorem burn_objs {σ : Wd} : (burnW σ).objs = σ.objs := by unfold burnW; split <;> rfl
theorem repl_snoc {l : List Blb} {cs : List CP} {c : CP} : replF l (cs ++ [c]) = replStep (replF l cs) c := by unfold replF; rw [List.foldl_append]; rfl
/-- The trace tells what is held. -/
def Told (start : List Blb) (σ : Wd) : Prop := Holds' σ (replF start σ.trace)
theorem told_burn {start : List Blb} {σ : Wd} (h : Told start σ) : Told start (burnW σ) := by
  unfold Told Holds'
  rw [burn_objs, burnW_trace]
  exact h
theorem told_same {start : List Blb} {σ τ : Wd} (h : Told start σ) (h1 : τ.objs = σ.objs) (h2 : τ.trace = σ.trace) : Told start τ := by
  unfold Told Holds'
  rw [h1, h2]
  exact h
theorem told_end {start : List Blb} {σ : Wd} {c : CP} (h : Holds' σ (replStep (replF start σ.trace) c)) : Told start (endW σ c) := by
  unfold Told Holds' endW
  rw [burn_objs, burnW_trace, repl_snoc]
  exact h
theorem told_quiet {start : List Blb} {σ τ : Wd} {c : CP} (h : Told start σ) (hc : c.kind ≠ 2 ∧ c.kind ≠ 3) (h1 : τ.objs = σ.objs) (h2 : τ.trace = σ.trace) : Told start (endW τ c) := by
  refine told_end ?_
  unfold replStep
  rw [if_neg (by omega), h2]
  unfold Holds'
  rw [h1]
  exact h
theorem told_get {start : List Blb} {σ : Wd} (n : ByteArray) (h : Told start σ) : Told start (getW σ n).1 := by
  unfold getW
  split
  · exact told_quiet h ⟨by simp, by simp⟩ rfl rfl
  · exact h
theorem told_put {start : List Blb} {σ : Wd} (n x : ByteArray) (h : Told start σ) : Told start (putW σ n x) := by
  unfold putW
  split
  · split
    · refine told_end ?_
      unfold replStep
      rw [if_pos (.inl rfl), if_pos rfl]
      refine ⟨mput_nodup h.1, ?_⟩
      have h1 : ((mput σ.objs n x).map prB).Perm ((mdel σ.objs n ++ [(n, x)]).map prB) := (mput_perm'.symm).map prB
      refine h1.trans ?_
      rw [List.map_append, mdel_filter h.1]
      exact (filter_pr h.2).append (.refl _)
    · exact h
  · exact h
theorem told_del {start : List Blb} {σ : Wd} (n : ByteArray) (h : Told start σ) : Told start (delW σ n) := by
  unfold delW
  split
  · refine told_end ?_
    rw [dropW_trace]
    unfold replStep
    rw [if_pos (.inr rfl), if_neg (show ¬ ((3 : Int) = 2) by decide), List.append_nil]
    unfold dropW
    split
    · refine ⟨mdel_nodup h.1, ?_⟩
      show ((mdel σ.objs n).map prB).Perm _
      rw [mdel_filter h.1]
      exact filter_pr h.2
    · rename_i hno
      refine ⟨h.1, ?_⟩
      have hf : σ.objs.filter (fun p => decide (p.1 ≠ n)) = σ.objs := by
        rw [List.filter_eq_self]
        intro p hp
        simp only [ne_eq, decide_eq_true_eq]
        exact fun hh => hno (mem_keys.1 (List.mem_map.2 ⟨p, hp, hh⟩))
      have := filter_pr (n := n) h.2
      rw [hf] at this
      exact this
  · exact h
theorem told_do {start : List Blb} {σ : Wd} (o : WOp) (h : Told start σ) : Told start (doW σ o) := by
  unfold doW
  by_cases c4 : o.kind = 4
  · rw [if_pos c4]; exact told_get _ h
  rw [if_neg c4]
  by_cases c5 : o.kind = 5
  · rw [if_pos c5]; exact told_put _ _ h
  rw [if_neg c5]
  by_cases c6 : o.kind = 6
  · rw [if_pos c6]; exact told_del _ h
  rw [if_neg c6]
  split
  · unfold listW
    split
    · exact told_quiet h ⟨by simp, by simp⟩ rfl rfl
    · exact h
  split
  · unfold loadW
    split
    · exact told_burn h
    · exact h
  split
  · unfold pendW
    split
    · split
      · exact told_burn (told_same h rfl rfl)
      · exact h
    · exact h
  split
  · unfold commitW
    split
    · exact told_burn (told_same h rfl rfl)
    · exact h
  split
  · unfold forgetW
    split
    · exact told_burn (told_same h rfl rfl)
    · exact h
  split
  · unfold stopW
    split
    · exact told_burn (told_same h rfl rfl)
    · exact h
  split
  · unfold armW
    split
    · exact told_same h rfl rfl
    · exact h
  split
  · exact told_same h rfl rfl
  · exact h
theorem leg_new : Leg Wd.new := ⟨by simp [Wd.new, keys], fun n x hx => (by cases hx), tag_nil, tag_nil⟩
theorem adoptL_inv : ∀ (l : List Blb) (σ τ : Wd), adoptL σ l = (τ, 0) → Leg σ → Leg τ ∧ τ.objs = σ.objs ++ l.map (fun x => (x.name, x.blob)) ∧ τ.chg.length = σ.chg.length + l.length ∧ τ.trace = σ.trace ∧ τ.puts = σ.puts ∧ τ.marks = σ.marks ∧ τ.planned = σ.planned
  | [], σ, τ, h, hl => by
    unfold adoptL at h
    obtain rfl := (Prod.mk.inj h).1
    exact ⟨hl, by simp, by simp, rfl, rfl, rfl, rfl⟩
  | x :: l, σ, τ, h, hl => by
    unfold adoptL at h
    split at h
    · exact absurd (Prod.mk.inj h).2 (by decide)
    · rename_i hc
      split at h
      · exact absurd (Prod.mk.inj h).2 (by decide)
      · rename_i hz
        rw [not_or] at hc
        have hgn : mget σ.objs x.name = none := by
          cases hg : mget σ.objs x.name with
          | none => rfl
          | some s => exact absurd (by rw [hg]; rfl) hc.1
        have hlab : labB x.name = true := by simpa using hc.2
        have hobj : (setW σ x.name x.blob).objs = σ.objs ++ [(x.name, x.blob)] := mput_new hgn
        have hl2 : Leg (setW σ x.name x.blob) := ⟨mput_nodup hl.nd, fun n y hy => by
          have hy2 : mget (mput σ.objs x.name x.blob) n = some y := hy
          rw [mget_mput] at hy2
          split at hy2
          · rename_i hn
            injection hy2 with hy2
            subst hn hy2
            exact ⟨hlab, by omega⟩
          · exact hl.get n y hy2, hl.cur, hl.pend⟩
        obtain ⟨h1, h2, h3, h4⟩ := adoptL_inv l _ τ h hl2
        refine ⟨h1, ?_, ?_, h4⟩
        · rw [h2, hobj, List.append_assoc]
          rfl
        · rw [h3]
          unfold setW
          simp
          omega
end Go.Proofs.Ytbmafpbjkeehaaa.S
