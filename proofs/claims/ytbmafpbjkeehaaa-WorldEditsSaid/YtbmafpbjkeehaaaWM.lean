/- world: two worlds that answer alike, plainly -/
import Derived.Test.YtbmafpbjkeehaaaWL
namespace Go.Proofs.Ytbmafpbjkeehaaa.S
open Go.RowKit
set_option linter.unusedVariables false
set_option linter.unusedSimpArgs false
set_option maxRecDepth 100000
set_option maxHeartbeats 1000000
theorem mget_mput {κ β : Type} [DecidableEq κ] {m : List (κ × β)} {k k' : κ} {v : β} : mget (mput m k v) k' = if k = k' then some v else mget m k' := by
  split
  · rename_i h; subst h; exact mget_mput_same
  · rename_i h; exact mget_mput_ne h
theorem mget_mdel {κ β : Type} [DecidableEq κ] {m : List (κ × β)} {k k' : κ} (hn : (keys m).Nodup) : mget (mdel m k) k' = if k = k' then none else mget m k' := by
  split
  · rename_i h; subst h; exact mget_mdel_same hn
  · rename_i h; exact mget_mdel_ne h
structure Sim (σ τ : Wd) : Prop where
  nd1 : (keys σ.objs).Nodup
  nd2 : (keys τ.objs).Nodup
  get : ∀ n, mget σ.objs n = mget τ.objs n
  reg : σ.reg = τ.reg
  off : σ.off = τ.off
  left : σ.left = τ.left
theorem mem_keys {κ β : Type} [DecidableEq κ] {m : List (κ × β)} {k : κ} : k ∈ keys m ↔ (mget m k).isSome = true := by
  constructor
  · intro h
    cases hg : mget m k with
    | some s => rfl
    | none => exact absurd h (mget_none.1 hg)
  · intro h
    exact Classical.byContradiction fun hn => by rw [mget_none.2 hn] at h; cases h
theorem sim_names {σ τ : Wd} (h : Sim σ τ) : namesW σ = namesW τ := by
  unfold namesW
  refine sortS_perm ((List.perm_ext_iff_of_nodup h.nd1 h.nd2).2 fun k => ?_)
  rw [mem_keys, mem_keys, h.get]
theorem sim_dump {σ τ : Wd} (h : Sim σ τ) : dumpW σ = dumpW τ := by
  unfold dumpW
  rw [sim_names h]
  refine List.map_congr_left fun n _ => ?_
  rw [h.get]
theorem sim_ready {σ τ : Wd} (h : Sim σ τ) (l : List ByteArray) : readyE σ l = readyE τ l := by unfold readyE; rw [h.off]
theorem sim_burn {σ τ : Wd} (h : Sim σ τ) : Sim (burnW σ) (burnW τ) := by
  have e1 : (burnW σ).objs = σ.objs := by unfold burnW; split <;> rfl
  have e2 : (burnW τ).objs = τ.objs := by unfold burnW; split <;> rfl
  exact ⟨by rw [e1]; exact h.nd1, by rw [e2]; exact h.nd2, fun n => by rw [e1, e2]; exact h.get n, by rw [burnW_reg, burnW_reg]; exact h.reg, burn_off h.left h.off, burn_left h.left⟩
theorem sim_mark {σ τ : Wd} (h : Sim σ τ) : Sim (markW σ) (markW τ) := ⟨h.nd1, h.nd2, h.get, h.reg, h.off, h.left⟩
theorem sim_end {σ τ : Wd} {c d : CP} (h : Sim σ τ) : Sim (endW σ c) (endW τ d) := sim_burn (σ := { σ with trace := σ.trace ++ [c] }) (τ := { τ with trace := τ.trace ++ [d] }) ⟨h.nd1, h.nd2, h.get, h.reg, h.off, h.left⟩
theorem sim_reg {σ τ : Wd} {r s : Reg} (h : Sim σ τ) (hr : r = s) : Sim { σ with reg := r } { τ with reg := s } := ⟨h.nd1, h.nd2, h.get, hr, h.off, h.left⟩
theorem sim_drop {σ τ : Wd} (n : ByteArray) (h : Sim σ τ) : Sim (dropW σ n) (dropW τ n) := by
  unfold dropW
  rw [h.get n]
  have hg : ∀ k, mget (mdel σ.objs n) k = mget (mdel τ.objs n) k := fun k => by rw [mget_mdel h.nd1, mget_mdel h.nd2, h.get k]
  split
  · exact ⟨mdel_nodup h.nd1, mdel_nodup h.nd2, hg, h.reg, h.off, h.left⟩
  · exact h
theorem sim_get {σ τ : Wd} (n : ByteArray) (h : Sim σ τ) : Sim ((getW σ n).1) ((getW τ n).1) := by
  unfold getW
  rw [sim_ready h]
  by_cases c : readyE τ [n] = 0
  · rw [if_pos c, if_pos c]; exact sim_end (sim_mark h)
  · rw [if_neg c, if_neg c]; exact h
theorem sim_put {σ τ : Wd} (n x : ByteArray) (h : Sim σ τ) : Sim (putW σ n x) (putW τ n x) := by
  unfold putW
  rw [sim_ready h]
  by_cases c : readyE τ [n] = 0
  · rw [if_pos c, if_pos c]
    by_cases c2 : x.size ≤ 1048576
    · rw [if_pos c2, if_pos c2]
      have hg : ∀ k, mget (mput σ.objs n x) k = mget (mput τ.objs n x) k := fun k => by rw [mget_mput, mget_mput, h.get k]
      have hs : Sim ({ setW (markW σ) n x with puts := σ.puts ++ [⟨n, x⟩] } : Wd) ({ setW (markW τ) n x with puts := τ.puts ++ [⟨n, x⟩] } : Wd) := ⟨mput_nodup h.nd1, mput_nodup h.nd2, hg, h.reg, h.off, h.left⟩
      exact sim_end hs
    · rw [if_neg c2, if_neg c2]; exact h
  · rw [if_neg c, if_neg c]; exact h
theorem sim_del {σ τ : Wd} (n : ByteArray) (h : Sim σ τ) : Sim (delW σ n) (delW τ n) := by
  unfold delW
  rw [sim_ready h]
  by_cases c : readyE τ [n] = 0
  · rw [if_pos c, if_pos c]; exact sim_end (sim_drop _ (sim_mark h))
  · rw [if_neg c, if_neg c]; exact h
theorem sim_list {σ τ : Wd} (h : Sim σ τ) : Sim (listW σ) (listW τ) := by
  unfold listW
  rw [sim_ready h]
  by_cases c : readyE τ [] = 0
  · rw [if_pos c, if_pos c]; exact sim_end (sim_mark h)
  · rw [if_neg c, if_neg c]; exact h
theorem sim_load {σ τ : Wd} (h : Sim σ τ) : Sim (loadW σ) (loadW τ) := by
  unfold loadW
  rw [sim_ready h]
  by_cases c : readyE τ [] = 0
  · rw [if_pos c, if_pos c]; exact sim_burn h
  · rw [if_neg c, if_neg c]; exact h
theorem sim_pend {σ τ : Wd} (t : ByteArray) (h : Sim σ τ) : Sim (pendW σ t) (pendW τ t) := by
  unfold pendW
  rw [sim_ready h]
  by_cases c : readyE τ [] = 0
  · rw [if_pos c, if_pos c]
    by_cases c2 : t.size = 16
    · rw [if_pos c2, if_pos c2]; exact sim_burn (sim_reg h (by rw [h.reg]))
    · rw [if_neg c2, if_neg c2]; exact h
  · rw [if_neg c, if_neg c]; exact h
theorem sim_commit {σ τ : Wd} (h : Sim σ τ) : Sim (commitW σ) (commitW τ) := by
  unfold commitW
  rw [sim_ready h]
  by_cases c : readyE τ [] = 0
  · rw [if_pos c, if_pos c]; exact sim_burn (sim_reg h (by rw [h.reg]))
  · rw [if_neg c, if_neg c]; exact h
theorem sim_forget {σ τ : Wd} (h : Sim σ τ) : Sim (forgetW σ) (forgetW τ) := by
  unfold forgetW
  rw [sim_ready h]
  by_cases c : readyE τ [] = 0
  · rw [if_pos c, if_pos c]; exact sim_burn (sim_reg h (by rw [h.reg]))
  · rw [if_neg c, if_neg c]; exact h
theorem sim_stop {σ τ : Wd} (h : Sim σ τ) : Sim (stopW σ) (stopW τ) := by
  unfold stopW
  rw [sim_ready h]
  by_cases c : readyE τ [] = 0
  · rw [if_pos c, if_pos c]; exact sim_burn (sim_reg h (by rw [h.reg]))
  · rw [if_neg c, if_neg c]; exact h
theorem sim_arm {σ τ : Wd} (k : Int) (h : Sim σ τ) : Sim (armW σ k) (armW τ k) := by
  unfold armW
  rw [sim_ready h]
  by_cases c : readyE τ [] = 0
  · rw [if_pos c, if_pos c]; exact ⟨h.nd1, h.nd2, h.get, h.reg, rfl, rfl⟩
  · rw [if_neg c, if_neg c]; exact h
theorem sim_power {σ τ : Wd} (h : Sim σ τ) : Sim (powerW σ) (powerW τ) := by
  exact ⟨h.nd1, h.nd2, h.get, h.reg, rfl, rfl⟩
theorem sim_do {σ τ : Wd} (o : WOp) (h : Sim σ τ) : Sim (doW σ o) (doW τ o) := by
  unfold doW
  by_cases c4 : o.kind = 4
  · rw [if_pos c4, if_pos c4]; exact sim_get _ h
  rw [if_neg c4, if_neg c4]
  by_cases c5 : o.kind = 5
  · rw [if_pos c5, if_pos c5]; exact sim_put _ _ h
  rw [if_neg c5, if_neg c5]
  by_cases c6 : o.kind = 6
  · rw [if_pos c6, if_pos c6]; exact sim_del _ h
  rw [if_neg c6, if_neg c6]
  by_cases c7 : o.kind = 7
  · rw [if_pos c7, if_pos c7]; exact sim_list h
  rw [if_neg c7, if_neg c7]
  by_cases c8 : o.kind = 8
  · rw [if_pos c8, if_pos c8]; exact sim_load h
  rw [if_neg c8, if_neg c8]
  by_cases c9 : o.kind = 9
  · rw [if_pos c9, if_pos c9]; exact sim_pend _ h
  rw [if_neg c9, if_neg c9]
  by_cases c10 : o.kind = 10
  · rw [if_pos c10, if_pos c10]; exact sim_commit h
  rw [if_neg c10, if_neg c10]
  by_cases c11 : o.kind = 11
  · rw [if_pos c11, if_pos c11]; exact sim_forget h
  rw [if_neg c11, if_neg c11]
  by_cases c12 : o.kind = 12
  · rw [if_pos c12, if_pos c12]; exact sim_stop h
  rw [if_neg c12, if_neg c12]
  by_cases c14 : o.kind = 14
  · rw [if_pos c14, if_pos c14]; exact sim_arm _ h
  rw [if_neg c14, if_neg c14]
  by_cases c15 : o.kind = 15
  · rw [if_pos c15, if_pos c15]; exact sim_power h
  rw [if_neg c15, if_neg c15]
  exact h
/-- What a world that was played with is. -/
structure Leg (σ : Wd) : Prop where
  nd : (keys σ.objs).Nodup
  get : ∀ n x, mget σ.objs n = some x → labB n = true ∧ x.size ≤ 1048576
  cur : tagB σ.reg.cur = true
  pend : tagB σ.reg.pend = true
theorem leg_burn {σ : Wd} (h : Leg σ) : Leg (burnW σ) := by unfold burnW; split; exact ⟨h.nd, h.get, h.cur, h.pend⟩; exact h
theorem leg_mark {σ : Wd} (h : Leg σ) : Leg (markW σ) := ⟨h.nd, h.get, h.cur, h.pend⟩
theorem leg_end {σ : Wd} {c : CP} (h : Leg σ) : Leg (endW σ c) := leg_burn (σ := { σ with trace := σ.trace ++ [c] }) ⟨h.nd, h.get, h.cur, h.pend⟩
theorem tag_nil : tagB bE = true := by decide +kernel
theorem leg_do {σ : Wd} (o : WOp) (h : Leg σ) : Leg (doW σ o) := by
  unfold doW
  split
  · unfold getW
    split
    · exact leg_end (leg_mark h)
    · exact h
  split
  · unfold putW
    split
    · rename_i hr
      split
      · rename_i hz
        refine leg_end ⟨mput_nodup h.nd, fun n x hx => ?_, h.cur, h.pend⟩
        have hx2 : mget (mput σ.objs o.name o.blob) n = some x := hx
        rw [mget_mput] at hx2
        split at hx2
        · rename_i hn
          injection hx2 with hx2
          subst hn hx2
          refine ⟨?_, hz⟩
          unfold readyE at hr
          split at hr
          · exact absurd hr (by decide)
          · split at hr
            · rename_i hl; simpa using hl
            · exact absurd hr (by decide)
        · exact h.get n x hx2
      · exact h
    · exact h
  split
  · unfold delW
    split
    · refine leg_end ?_
      unfold dropW
      split
      · refine ⟨mdel_nodup h.nd, fun n x hx => ?_, h.cur, h.pend⟩
        have hx2 : mget (mdel σ.objs o.name) n = some x := hx
        rw [mget_mdel h.nd] at hx2
        split at hx2
        · cases hx2
        · exact h.get n x hx2
      · exact leg_mark h
    · exact h
  split
  · unfold listW
    split
    · exact leg_end (leg_mark h)
    · exact h
  split
  · unfold loadW
    split
    · exact leg_burn h
    · exact h
  split
  · unfold pendW
    split
    · split
      · rename_i hz
        exact leg_burn ⟨h.nd, h.get, h.cur, by unfold tagB; rw [decide_eq_true hz]; simp⟩
      · exact h
    · exact h
  split
  · unfold commitW commitR
    split
    · split
      · exact leg_burn ⟨h.nd, h.get, h.cur, h.pend⟩
      · exact leg_burn ⟨h.nd, h.get, h.pend, tag_nil⟩
    · exact h
  split
  · unfold forgetW
    split
    · exact leg_burn ⟨h.nd, h.get, h.cur, tag_nil⟩
    · exact h
  split
  · unfold stopW
    split
    · exact leg_burn ⟨h.nd, h.get, h.cur, h.pend⟩
    · exact h
  split
  · unfold armW
    split
    · exact ⟨h.nd, h.get, h.cur, h.pend⟩
    · exact h
  split
  · exact ⟨h.nd, h.get, h.cur, h.pend⟩
  · exact h
theorem leg_work : Leg workW := by
  refine ⟨?_, ?_, ?_, ?_⟩
  · rw [work_objs]
    simp [keys]
  · intro n x hx
    rw [work_objs] at hx
    cases hx
  · rw [work_reg]
    exact tag_nil
  · rw [work_reg]
    exact tag_nil
theorem adoptL_ok : ∀ (l : List Blb) (σ : Wd), (l.map (·.name)).Nodup → (∀ x ∈ l, labB x.name = true ∧ x.blob.size ≤ 1048576) → (∀ x ∈ l, x.name ∉ keys σ.objs) →
    ∃ τ : Wd, adoptL σ l = (τ, 0) ∧ τ.objs = σ.objs ++ l.map (fun x => (x.name, x.blob)) ∧ τ.chg.length = σ.chg.length + l.length ∧ τ.off = σ.off ∧ τ.left = σ.left ∧ τ.trace = σ.trace ∧ τ.puts = σ.puts ∧ τ.marks = σ.marks ∧ τ.planned = σ.planned
  | [], σ, _, _, _ => ⟨σ, rfl, by simp, by simp, rfl, rfl, rfl, rfl, rfl, rfl⟩
  | x :: l, σ, hn, hg, hk => by
    have hx := hg x List.mem_cons_self
    have hkx := hk x List.mem_cons_self
    rw [List.map_cons, List.nodup_cons] at hn
    have hgn : mget σ.objs x.name = none := mget_none.2 hkx
    have hobj : (setW σ x.name x.blob).objs = σ.objs ++ [(x.name, x.blob)] := mput_new hgn
    obtain ⟨τ, h1, h2, h3, h4⟩ := adoptL_ok l (setW σ x.name x.blob) hn.2 (fun y hy => hg y (List.mem_cons_of_mem _ hy)) (fun y hy hh => by
      rw [hobj] at hh
      unfold keys at hh
      rw [List.map_append, List.mem_append] at hh
      rcases hh with hh | hh
      · exact hk y (List.mem_cons_of_mem _ hy) hh
      · simp at hh
        exact hn.1 (List.mem_map.2 ⟨y, hy, hh⟩))
    refine ⟨τ, ?_, ?_, ?_, h4⟩
    · unfold adoptL
      rw [hgn, hx.1, if_neg (by simp), if_neg (by omega), h1]
    · rw [h2, hobj, List.append_assoc]
      rfl
    · rw [h3]
      unfold setW
      simp
      omega
theorem mget_fn {κ β : Type} [DecidableEq κ] (f : κ → β) (k : κ) : ∀ l : List κ, mget (l.map fun n => (n, f n)) k = if k ∈ l then some (f k) else none
  | [] => rfl
  | n :: l => by
    rw [List.map_cons]
    unfold mget
    by_cases h : n = k
    · subst h; simp
    · rw [if_neg h, mget_fn f k l]
      simp [Ne.symm h]
theorem names_mem {σ : Wd} {n : ByteArray} : n ∈ namesW σ ↔ (mget σ.objs n).isSome = true := by
  unfold namesW
  rw [sortS_mem.mem_iff, mem_keys]
theorem names_nodup {σ : Wd} (h : (keys σ.objs).Nodup) : (namesW σ).Nodup := sortS_mem.nodup_iff.2 h
/-- A world of another one's Dump and Kept. -/
theorem adopt_leg {σ : Wd} (h : Leg σ) (hoff : σ.off = false) (hl : σ.left = 0) : ∃ τ : Wd, adoptF (dumpW σ) σ.reg = (some τ, 0) ∧ Sim σ τ ∧ τ.trace = [] ∧ τ.ok σ.objs.length := by
  have hnm : (dumpW σ).map (·.name) = namesW σ := by unfold dumpW; rw [List.map_map]; simp [Function.comp_def]
  have hdl : (dumpW σ).length = σ.objs.length := by unfold dumpW; rw [List.length_map, namesW_len]
  obtain ⟨τ, h1, h2, h3, h4, h5, h6, h7, h8, h9⟩ := adoptL_ok (dumpW σ) Wd.new (by rw [hnm]; exact names_nodup h.nd) (fun x hx => by
    unfold dumpW at hx
    obtain ⟨n, hn, rfl⟩ := List.mem_map.1 hx
    have hs := names_mem.1 hn
    cases hg : mget σ.objs n with
    | none => rw [hg] at hs; cases hs
    | some s => exact h.get n s hg) (fun x _ hh => by cases hh)
  have hobj : τ.objs = (namesW σ).map fun n => (n, (mget σ.objs n).getD bE) := by
    rw [h2]
    unfold dumpW
    rw [List.map_map]
    rfl
  have hkeys : keys τ.objs = namesW σ := by rw [hobj]; unfold keys; rw [List.map_map]; simp [Function.comp_def]
  refine ⟨{ τ with reg := σ.reg }, ?_, ⟨h.nd, by show (keys τ.objs).Nodup; rw [hkeys]; exact names_nodup h.nd, fun n => ?_, rfl, by rw [hoff]; exact h4.symm, by rw [hl]; exact h5.symm⟩, h6, ⟨h9, ?_, ?_, ?_, ?_, ?_⟩⟩
  · unfold adoptF
    rw [h1, if_neg (by simp), if_pos ⟨h.cur, h.pend⟩]
  · show mget σ.objs n = mget τ.objs n
    rw [hobj, mget_fn]
    split
    · rename_i hm
      have hs := names_mem.1 hm
      cases hg : mget σ.objs n with
      | none => rw [hg] at hs; cases hs
      | some s => rfl
    · rename_i hm
      cases hg : mget σ.objs n with
      | none => rfl
      | some s => exact absurd (names_mem.2 (by rw [hg]; rfl)) hm
  · show τ.objs.length ≤ _
    rw [hobj, List.length_map, namesW_len]
    exact Nat.le_refl _
  · show τ.trace.length ≤ _
    rw [h6]; simp [Wd.new]
  · show τ.puts.length ≤ _
    rw [h7]; simp [Wd.new]
  · show τ.chg.length ≤ _
    rw [h3, hdl]; simp [Wd.new]
  · show τ.marks.length ≤ _
    rw [h8]; simp [Wd.new]
end Go.Proofs.Ytbmafpbjkeehaaa.S
