/- exec: the reference's Apply -/
import Derived.Test.YtcoohckdnefacaaDoorXS
namespace Go.Proofs.YtcoohckdnefacaaDoor.S
open Go.RowKit
set_option linter.unusedVariables false
set_option linter.unusedSimpArgs false
set_option maxRecDepth 100000
set_option maxHeartbeats 4000000
set_option synthInstance.maxHeartbeats 400000
set_option synthInstance.maxSize 4000
attribute [local irreducible] wpList Code.wp Exit.then Exit.inBlock stillR bodyPost hR J Back Mid
def runRS (q : RL × List RP) (s : RP × Eff) : Option (RL × List RP) :=
  if s.1.code = 0 ∧ s.2.kind ≠ 0 then (stR q.1 s.2).map fun (l, d) => (l, q.2 ++ [if s.2.kind = 2 then { s.1 with data := d } else s.1]) else some (q.1, q.2 ++ [s.1])
def refApply (slots : List Slt) (steps : List (RP × Eff)) (cs : List ByteArray) : Option (List RP × List ByteArray) :=
  (fiR slots cs).bind fun l => (steps.foldlM runRS (l, [])).bind fun q => (laR q.1 slots).map fun out => (q.2, out)
def RefQ (r : Option (List RP × List ByteArray)) (v : Value) (L : List Hp) : Prop := match r with
  | none => v = .tuple #[.agg [.slice none 0 0, .slice none 0 0].toArray, .int .i64 160] ∧ L = []
  | some (rs, outs) => ∃ A c rl B d, rl.map Res.pl = rs ∧ v = .tuple #[.agg [.slice A rl.length c, .slice B outs.length d].toArray, .int .i64 0] ∧ L = [own encRes A c rl, allR namR rl, own encS B d outs]
abbrev big : Nat := 140737488351232
theorem writeF_le {xs d : List UInt8} {a : Nat} : (writeF xs a d).length ≤ max xs.length (a + d.length) := by
  by_cases hd : d = []
  · subst hd; unfold writeF; simp; omega
  · rw [writeF_len hd]; exact Nat.le_refl _
theorem chR_size {s t : ByteArray} {e : Eff} (h : chR s e = some t) (hs : s.size ≤ big) : t.size ≤ big := by
  unfold chR at h
  have hbig : big = 140737488351232 := rfl
  have hss := dsize s
  have hds := dsize e.data
  split at h
  · split at h
    · cases h
    · rename_i hc
      cases h
      unfold cutB
      rw [bstr_size, cutF_len]
      omega
  · split at h
    · cases h
    · rename_i hc
      have hw : (writtenB s e.at_.toNat e.data).size ≤ big := by
        unfold writtenB
        rw [bstr_size]
        have := writeF_le (xs := s.data.toList) (d := e.data.data.toList) (a := e.at_.toNat)
        omega
      split at h
      · cases h; exact hw
      · cases h
theorem wo_mem {l : RL} {n : Int} {p : Int × ByteArray} (h : p ∈ wo l n) : p ∈ l := (List.mem_filter.1 h).1
theorem stR_ok {l l' : RL} {e : Eff} {d : ByteArray} (h : stR l e = some (l', d)) (hs : ∀ p ∈ l, p.2.size ≤ big) : l'.length ≤ l.length + 1 ∧ ∀ p ∈ l', p.2.size ≤ big := by
  unfold stR at h
  have h1 := wo_len l e.file
  have h2 := wo_len l e.gone
  split at h
  · split at h
    · cases h
    · cases h
      refine ⟨by simp; omega, fun p hp => ?_⟩
      rcases List.mem_append.1 hp with hp | hp
      · exact hs p (wo_mem hp)
      · simp at hp; rw [hp]; exact Nat.zero_le _
  · split at h
    · split at h
      · cases h
      · obtain ⟨t, _, ht⟩ := Option.map_eq_some_iff.1 h
        cases ht
        exact ⟨by omega, hs⟩
    · split at h
      · split at h
        · cases h
        · rename_i s hg
          obtain ⟨t, hc, ht⟩ := Option.map_eq_some_iff.1 h
          cases ht
          refine ⟨by simp; omega, fun p hp => ?_⟩
          rcases List.mem_append.1 hp with hp | hp
          · exact hs p (wo_mem hp)
          · simp at hp
            rw [hp]
            exact chR_size hc (hs _ ((mget_perm hg).symm.subset List.mem_cons_self))
      · split at h
        · split at h
          · cases h; exact ⟨by omega, fun p hp => hs p (wo_mem hp)⟩
          · cases h
        · split at h
          · split at h
            · cases h; exact ⟨by omega, fun p hp => hs p (wo_mem hp)⟩
            · cases h
          · cases h
theorem foldlM_inv {α σ : Type} {f : σ → α → Option σ} (P : σ → Prop) (hf : ∀ s x s', P s → f s x = some s' → P s') : ∀ (l : List α) (s s' : σ), P s → l.foldlM f s = some s' → P s'
  | [], s, s', h, he => by cases he; exact h
  | x :: l, s, s', h, he => by
    cases hx : f s x with
    | none => rw [List.foldlM_cons, hx] at he; cases he
    | some q => rw [List.foldlM_cons, hx] at he; exact foldlM_inv P hf l q s' (hf s x q h hx) he
theorem fiR_ok {slots : List Slt} {cs : List ByteArray} {l : RL} (h : fiR slots cs = some l) (hc : ∀ s ∈ cs, s.size ≤ big) : l.length ≤ slots.length ∧ ∀ p ∈ l, p.2.size ≤ big := by
  unfold fiR at h
  split at h
  · rename_i hlen
    have key : ∀ (zs : List (Slt × ByteArray)) (l0 l' : RL), (∀ p ∈ zs, p.2.size ≤ big) → (∀ p ∈ l0, p.2.size ≤ big) → zs.foldlM fiStep l0 = some l' → l'.length ≤ l0.length + zs.length ∧ ∀ p ∈ l', p.2.size ≤ big := by
      intro zs
      induction zs with
      | nil => intro l0 l' _ h0 he; cases he; exact ⟨Nat.le_refl _, h0⟩
      | cons z zs ih =>
        intro l0 l' hz h0 he
        cases hx : fiStep l0 z with
        | none => rw [List.foldlM_cons, hx] at he; cases he
        | some q =>
          rw [List.foldlM_cons, hx] at he
          have hq := fiStep_len hx
          have hq2 : ∀ p ∈ q, p.2.size ≤ big := by
            unfold fiStep at hx
            split at hx
            · cases hx
            · cases hx
              split
              · intro p hp
                rcases List.mem_append.1 hp with hp | hp
                · exact h0 p hp
                · simp at hp; rw [hp]; exact hz z List.mem_cons_self
              · exact h0
          obtain ⟨h3, h4⟩ := ih q l' (fun p hp => hz p (List.mem_cons_of_mem _ hp)) hq2 he
          exact ⟨by simp; omega, h4⟩
    obtain ⟨h3, h4⟩ := key _ [] l (fun p hp => hc p.2 (List.of_mem_zip hp).2) (fun p hp => by cases hp) h
    refine ⟨?_, h4⟩
    rw [List.length_zip] at h3
    simp at h3
    omega
  · cases h
theorem runRS_no {q : RL × List RP} {s : RP × Eff} (h : ¬ (s.1.code = 0 ∧ s.2.kind ≠ 0)) : runRS q s = some (q.1, q.2 ++ [s.1]) := by unfold runRS; exact if_neg h
theorem runRS_yes {q : RL × List RP} {s : RP × Eff} (h : s.1.code = 0 ∧ s.2.kind ≠ 0) : runRS q s = (stR q.1 s.2).map fun (l, d) => (l, q.2 ++ [if s.2.kind = 2 then { s.1 with data := d } else s.1]) := by unfold runRS; exact if_pos h
theorem refApply_spec (A B C : Option Addr) (c d e1 : Nat) (slots : List Slt) (steps : List Stp) (cs : List ByteArray) (hs : slots.length * 32 ≤ 140737488351232) (hst : steps.length * 136 ≤ 140737488351232) (hn : ∀ s ∈ steps, s.res.names.xs.length * 16 ≤ 140737488355328) (hd : ∀ s ∈ steps, s.eff.data.size ≤ 140737488351232) (hcs : ∀ s ∈ cs, s.size ≤ 140737488351232) :
    Spec Tryd.prog 5 [planV A B slots.length steps.length c d, .slice C cs.length e1] [] (fun F => RO F encSlt A slots ∧ RO F encStp B steps ∧ RO F encS C cs ∧ StpRO F steps) (RefQ (refApply slots (steps.map stpP) cs)) := by
  generalize hr : refApply slots (steps.map stpP) cs = res
  unfold planV
  refine spec_of Tryd.func5 rfl Tryd.ntmps5 fun F hF => ?_
  obtain ⟨ro1, ro2, ro3, ro4⟩ := hF
  unfold refApply at hr
  refine j_seq fun K hK => ?_
  refine j_region ?_
  refine j_box rfl fun bp => ?_
  refine j_alloc rfl fun bo => ?_
  repeat (first | refine j_addN (by omega) rfl ?_ | refine j_subN (by omega) rfl ?_ | refine j_mulN (by omega) rfl ?_ | refine j_remN (by omega) rfl ?_ | refine j_addI (by omega) (by omega) rfl ?_ | refine j_subI (by omega) (by omega) rfl ?_ | refine j_op rfl ?_ | refine j_pickF rfl ?_ | refine j_pickT rfl ?_ | refine j_region ?_ | refine j_nil ?_ | refine j_then ?_ | refine j_mono (by assumption) ?_ | (refine j_seq fun K hK => ?_) | refine j_gdo rfl ?_ | refine j_gskip_t rfl ?_ | refine j_gskip_f rfl ?_ | refine j_gskip_u rfl ?_ | refine j_gspec rfl ?_ | refine j_block ?_ | refine j_ret ?_ | refine j_then_ret ?_ | refine j_in_ret ?_ | refine j_in_normal ?_ | refine j_exit ?_ | refine j_then_exit ?_ | refine j_in_exit ?_ | refine j_in_past ?_ | refine j_skip ?_ | refine j_cond_t ?_ | refine j_cond_f ?_ | refine j_store rfl ?_ | refine j_still_nil ?_)
  refine j_call (first_spec A C c e1 slots cs (by omega)) rfl .nil (fun F' hF' => ⟨ro1.ext hF', ro3.ext hF'⟩) ?_
  cases hb : fiR slots cs with
  | none =>
    rw [hb, Option.bind_none] at hr
    cases hr
    rintro _ _ ⟨w, rfl, rfl⟩
    simp only [List.cons_append, List.nil_append]
    repeat (first | refine j_addN (by omega) rfl ?_ | refine j_subN (by omega) rfl ?_ | refine j_mulN (by omega) rfl ?_ | refine j_remN (by omega) rfl ?_ | refine j_addI (by omega) (by omega) rfl ?_ | refine j_subI (by omega) (by omega) rfl ?_ | refine j_op rfl ?_ | refine j_pickF rfl ?_ | refine j_pickT rfl ?_ | refine j_region ?_ | refine j_nil ?_ | refine j_then ?_ | refine j_mono (by assumption) ?_ | (refine j_seq fun K hK => ?_) | refine j_gdo rfl ?_ | refine j_gskip_t rfl ?_ | refine j_gskip_f rfl ?_ | refine j_gskip_u rfl ?_ | refine j_gspec rfl ?_ | refine j_block ?_ | refine j_ret ?_ | refine j_then_ret ?_ | refine j_in_ret ?_ | refine j_in_normal ?_ | refine j_exit ?_ | refine j_then_exit ?_ | refine j_in_exit ?_ | refine j_in_past ?_ | refine j_skip ?_ | refine j_cond_t ?_ | refine j_cond_f ?_ | refine j_store rfl ?_ | refine j_still_nil ?_)
    (first | refine j_done (.inl rfl) ?_ | refine j_done (.inr rfl) ?_ | refine j_doneM (.inl rfl) ?_ | refine j_doneM (.inr rfl) ?_)
    exact ⟨_, ⟨rfl, rfl⟩, LE.nil⟩
  | some l0 =>
    obtain ⟨hl0, hz0⟩ := fiR_ok hb hcs
    rw [hb, Option.bind_some] at hr
    rintro _ _ ⟨D0, q0, rfl, rfl⟩
    simp only [List.cons_append, List.nil_append]
    repeat (first | refine j_addN (by omega) rfl ?_ | refine j_subN (by omega) rfl ?_ | refine j_mulN (by omega) rfl ?_ | refine j_remN (by omega) rfl ?_ | refine j_addI (by omega) (by omega) rfl ?_ | refine j_subI (by omega) (by omega) rfl ?_ | refine j_op rfl ?_ | refine j_pickF rfl ?_ | refine j_pickT rfl ?_ | refine j_region ?_ | refine j_nil ?_ | refine j_then ?_ | refine j_mono (by assumption) ?_ | (refine j_seq fun K hK => ?_) | refine j_gdo rfl ?_ | refine j_gskip_t rfl ?_ | refine j_gskip_f rfl ?_ | refine j_gskip_u rfl ?_ | refine j_gspec rfl ?_ | refine j_block ?_ | refine j_ret ?_ | refine j_then_ret ?_ | refine j_in_ret ?_ | refine j_in_normal ?_ | refine j_exit ?_ | refine j_then_exit ?_ | refine j_in_exit ?_ | refine j_in_past ?_ | refine j_skip ?_ | refine j_cond_t ?_ | refine j_cond_f ?_ | refine j_store rfl ?_ | refine j_still_nil ?_)
    refine j_alloc rfl fun b8 => ?_
    repeat (first | refine j_addN (by omega) rfl ?_ | refine j_subN (by omega) rfl ?_ | refine j_mulN (by omega) rfl ?_ | refine j_remN (by omega) rfl ?_ | refine j_addI (by omega) (by omega) rfl ?_ | refine j_subI (by omega) (by omega) rfl ?_ | refine j_op rfl ?_ | refine j_pickF rfl ?_ | refine j_pickT rfl ?_ | refine j_region ?_ | refine j_nil ?_ | refine j_then ?_ | refine j_mono (by assumption) ?_ | (refine j_seq fun K hK => ?_) | refine j_gdo rfl ?_ | refine j_gskip_t rfl ?_ | refine j_gskip_f rfl ?_ | refine j_gskip_u rfl ?_ | refine j_gspec rfl ?_ | refine j_block ?_ | refine j_ret ?_ | refine j_then_ret ?_ | refine j_in_ret ?_ | refine j_in_normal ?_ | refine j_exit ?_ | refine j_then_exit ?_ | refine j_in_exit ?_ | refine j_in_past ?_ | refine j_skip ?_ | refine j_cond_t ?_ | refine j_cond_f ?_ | refine j_store rfl ?_ | refine j_still_nil ?_)
    refine j_loop (fun m e L => ∃ k l rl A2 c2 D q, k ≤ steps.length ∧ m = steps.length - k ∧ ((steps.map stpP).take k).foldlM runRS (l0, []) = some (l, rl.map Res.pl) ∧ rl.length = k ∧ (l.length ≤ slots.length + k ∧ ∀ p ∈ l, p.2.size ≤ big) ∧ e = [(2, .pointer (some ⟨bp, 0, none⟩)), (4, .pointer (some ⟨bo, 0, none⟩)), (6, .slice D l.length q), (8, .pointer (some ⟨b8, 0, none⟩)), (9, .int .i64 (k : Int))] ∧ L = [own encFl D q l, own encRes A2 c2 rl, allR namR rl, cells b8 0 [.slice A2 rl.length c2, .slice none 0 0], cells bo 0 [.slice none 0 0, .slice none 0 0], cells bp 0 [.slice A slots.length c, .slice B steps.length d]]) steps.length _ _ ⟨0, l0, [], none, 0, D0, q0, by omega, rfl, rfl, rfl, ⟨by omega, hz0⟩, rfl, rfl⟩ (by (first | exact sub_nil | (repeat' (first | exact sub_nil | refine sub_cons inferInstance rfl ?_)))) ?_ ?_
    · refine LE.trans (LE.allNil (R := namR)) ?_
      refine LE.trans (own_nil encRes) ?_
      exact (LE.sub (by (repeat' (first | exact Pick.here | apply Pick.there | apply Picks.cons | exact Picks.nil))))
    rintro m e L ⟨k, l, rl, A2, c2, D, q, hk, rfl, hfold, hrl, ⟨hll, hlz⟩, rfl, rfl⟩
    repeat (first | refine j_addN (by omega) rfl ?_ | refine j_subN (by omega) rfl ?_ | refine j_mulN (by omega) rfl ?_ | refine j_remN (by omega) rfl ?_ | refine j_addI (by omega) (by omega) rfl ?_ | refine j_subI (by omega) (by omega) rfl ?_ | refine j_op rfl ?_ | refine j_pickF rfl ?_ | refine j_pickT rfl ?_ | refine j_region ?_ | refine j_nil ?_ | refine j_then ?_ | refine j_mono (by assumption) ?_ | (refine j_seq fun K hK => ?_) | refine j_gdo rfl ?_ | refine j_gskip_t rfl ?_ | refine j_gskip_f rfl ?_ | refine j_gskip_u rfl ?_ | refine j_gspec rfl ?_ | refine j_block ?_ | refine j_ret ?_ | refine j_then_ret ?_ | refine j_in_ret ?_ | refine j_in_normal ?_ | refine j_exit ?_ | refine j_then_exit ?_ | refine j_in_exit ?_ | refine j_in_past ?_ | refine j_skip ?_ | refine j_cond_t ?_ | refine j_cond_f ?_ | refine j_store rfl ?_ | refine j_still_nil ?_)
    refine j_cond (fun h => ?_) (fun h => ?_)
    · simp only [Bool.or_eq_true, Bool.and_eq_true, Bool.or_eq_false_iff, Bool.and_eq_false_iff, Bool.not_eq_true', Bool.not_eq_false', decide_eq_true_eq, decide_eq_false_iff_not, ne_eq, Decidable.not_not] at h
      have hx := List.getElem?_eq_getElem (show k < steps.length by omega)
      have hxm : steps[k] ∈ steps := List.getElem_mem _
      generalize steps[k] = x at hx hxm
      have hnx := hn x hxm
      have hdx := hd x hxm
      have ron := ro4 x hxm
      have htw := twinr_spec x.res hnx
      obtain ⟨⟨code, rdata, rn, names, rkind, rsize⟩, ⟨kind, file, gone, at_, n, data, size⟩⟩ := x
      dsimp only at hnx ron hdx htw
      unfold resV at htw
      have hat : At steps k ⟨⟨code, rdata, rn, names, rkind, rsize⟩, ⟨kind, file, gone, at_, n, data, size⟩⟩ := ⟨hx⟩
      have hxp : (steps.map stpP)[k]? = some ((⟨code, rdata, rn, names.xs, rkind, rsize⟩ : RP), (⟨kind, file, gone, at_, n, data, size⟩ : Eff)) := by rw [List.getElem?_map, hx]; rfl
      have hstep := foldlM_take (f := runRS) hxp (l0, [])
      rw [hfold, Option.bind_some] at hstep
      have hrn : ∀ A3 c3 dd, ((rl ++ [(⟨code, dd, rn, ⟨A3, c3, names.xs⟩, rkind, rsize⟩ : Res)]).map Res.pl) = rl.map Res.pl ++ [(⟨code, dd, rn, names.xs, rkind, rsize⟩ : RP)] := fun A3 c3 dd => by rw [List.map_append]; rfl
      repeat (first | refine j_addN (by omega) rfl ?_ | refine j_subN (by omega) rfl ?_ | refine j_mulN (by omega) rfl ?_ | refine j_remN (by omega) rfl ?_ | refine j_addI (by omega) (by omega) rfl ?_ | refine j_subI (by omega) (by omega) rfl ?_ | refine j_op rfl ?_ | refine j_pickF rfl ?_ | refine j_pickT rfl ?_ | refine j_region ?_ | refine j_nil ?_ | refine j_then ?_ | refine j_mono (by assumption) ?_ | (refine j_seq fun K hK => ?_) | refine j_gdo rfl ?_ | refine j_gskip_t rfl ?_ | refine j_gskip_f rfl ?_ | refine j_gskip_u rfl ?_ | refine j_gspec rfl ?_ | refine j_block ?_ | refine j_ret ?_ | refine j_then_ret ?_ | refine j_in_ret ?_ | refine j_in_normal ?_ | refine j_exit ?_ | refine j_then_exit ?_ | refine j_in_exit ?_ | refine j_in_past ?_ | refine j_skip ?_ | refine j_cond_t ?_ | refine j_cond_f ?_ | refine j_store rfl ?_ | refine j_still_nil ?_)
      refine j_call htw rfl .nil (fun F' hF' => ron.ext hF') ?_
      rintro _ _ ⟨A3, c3, rfl, rfl⟩
      simp only [List.cons_append, List.nil_append]
      repeat (first | refine j_addN (by omega) rfl ?_ | refine j_subN (by omega) rfl ?_ | refine j_mulN (by omega) rfl ?_ | refine j_remN (by omega) rfl ?_ | refine j_addI (by omega) (by omega) rfl ?_ | refine j_subI (by omega) (by omega) rfl ?_ | refine j_op rfl ?_ | refine j_pickF rfl ?_ | refine j_pickT rfl ?_ | refine j_region ?_ | refine j_nil ?_ | refine j_then ?_ | refine j_mono (by assumption) ?_ | (refine j_seq fun K hK => ?_) | refine j_gdo rfl ?_ | refine j_gskip_t rfl ?_ | refine j_gskip_f rfl ?_ | refine j_gskip_u rfl ?_ | refine j_gspec rfl ?_ | refine j_block ?_ | refine j_ret ?_ | refine j_then_ret ?_ | refine j_in_ret ?_ | refine j_in_normal ?_ | refine j_exit ?_ | refine j_then_exit ?_ | refine j_in_exit ?_ | refine j_in_past ?_ | refine j_skip ?_ | refine j_cond_t ?_ | refine j_cond_f ?_ | refine j_store rfl ?_ | refine j_still_nil ?_)
      refine j_alloc rfl fun b10 => ?_
      repeat (first | refine j_addN (by omega) rfl ?_ | refine j_subN (by omega) rfl ?_ | refine j_mulN (by omega) rfl ?_ | refine j_remN (by omega) rfl ?_ | refine j_addI (by omega) (by omega) rfl ?_ | refine j_subI (by omega) (by omega) rfl ?_ | refine j_op rfl ?_ | refine j_pickF rfl ?_ | refine j_pickT rfl ?_ | refine j_region ?_ | refine j_nil ?_ | refine j_then ?_ | refine j_mono (by assumption) ?_ | (refine j_seq fun K hK => ?_) | refine j_gdo rfl ?_ | refine j_gskip_t rfl ?_ | refine j_gskip_f rfl ?_ | refine j_gskip_u rfl ?_ | refine j_gspec rfl ?_ | refine j_block ?_ | refine j_ret ?_ | refine j_then_ret ?_ | refine j_in_ret ?_ | refine j_in_normal ?_ | refine j_exit ?_ | refine j_then_exit ?_ | refine j_in_exit ?_ | refine j_in_past ?_ | refine j_skip ?_ | refine j_cond_t ?_ | refine j_cond_f ?_ | refine j_store rfl ?_ | refine j_still_nil ?_)
      refine j_alloc rfl fun b11 => ?_
      by_cases c1 : code = 0 ∧ kind ≠ 0
      · have d1 : Dec (code = 0) true := dec_t c1.1
        have d2 : Dec (kind ≠ 0) true := dec_t c1.2
        rw [runRS_yes c1] at hstep
        have hsp := stepR_spec D q l ⟨kind, file, gone, at_, n, data, size⟩ (by omega) hdx hlz
        unfold effV at hsp
        repeat (first | refine j_addN (by omega) rfl ?_ | refine j_subN (by omega) rfl ?_ | refine j_mulN (by omega) rfl ?_ | refine j_remN (by omega) rfl ?_ | refine j_addI (by omega) (by omega) rfl ?_ | refine j_subI (by omega) (by omega) rfl ?_ | refine j_op rfl ?_ | refine j_pickF rfl ?_ | refine j_pickT rfl ?_ | refine j_region ?_ | refine j_nil ?_ | refine j_then ?_ | refine j_mono (by assumption) ?_ | (refine j_seq fun K hK => ?_) | refine j_gdo rfl ?_ | refine j_gskip_t rfl ?_ | refine j_gskip_f rfl ?_ | refine j_gskip_u rfl ?_ | refine j_gspec rfl ?_ | refine j_block ?_ | refine j_ret ?_ | refine j_then_ret ?_ | refine j_in_ret ?_ | refine j_in_normal ?_ | refine j_exit ?_ | refine j_then_exit ?_ | refine j_in_exit ?_ | refine j_in_past ?_ | refine j_skip ?_ | refine j_cond_t ?_ | refine j_cond_f ?_ | refine j_store rfl ?_ | refine j_still_nil ?_)
        refine j_call hsp rfl (by (repeat' (first | exact Pick.here | apply Pick.there | apply Picks.cons | exact Picks.nil))) (fun _ _ => trivial) ?_
        cases hq : stR l ⟨kind, file, gone, at_, n, data, size⟩ with
        | none =>
          rw [hq] at hstep
          rw [foldlM_none hstep] at hr
          cases hr
          rintro _ _ ⟨w, x, rfl, rfl⟩
          simp only [List.cons_append, List.nil_append]
          repeat (first | refine j_addN (by omega) rfl ?_ | refine j_subN (by omega) rfl ?_ | refine j_mulN (by omega) rfl ?_ | refine j_remN (by omega) rfl ?_ | refine j_addI (by omega) (by omega) rfl ?_ | refine j_subI (by omega) (by omega) rfl ?_ | refine j_op rfl ?_ | refine j_pickF rfl ?_ | refine j_pickT rfl ?_ | refine j_region ?_ | refine j_nil ?_ | refine j_then ?_ | refine j_mono (by assumption) ?_ | (refine j_seq fun K hK => ?_) | refine j_gdo rfl ?_ | refine j_gskip_t rfl ?_ | refine j_gskip_f rfl ?_ | refine j_gskip_u rfl ?_ | refine j_gspec rfl ?_ | refine j_block ?_ | refine j_ret ?_ | refine j_then_ret ?_ | refine j_in_ret ?_ | refine j_in_normal ?_ | refine j_exit ?_ | refine j_then_exit ?_ | refine j_in_exit ?_ | refine j_in_past ?_ | refine j_skip ?_ | refine j_cond_t ?_ | refine j_cond_f ?_ | refine j_store rfl ?_ | refine j_still_nil ?_)
          (first | refine j_done (.inl rfl) ?_ | refine j_done (.inr rfl) ?_ | refine j_doneM (.inl rfl) ?_ | refine j_doneM (.inr rfl) ?_)
          exact ⟨_, ⟨rfl, rfl⟩, LE.nil⟩
        | some q =>
          obtain ⟨l', dd⟩ := q
          obtain ⟨hl1, hl2⟩ := stR_ok hq hlz
          rw [hq, Option.map_some] at hstep
          rintro _ _ ⟨D2, q2, rfl, rfl⟩
          simp only [List.cons_append, List.nil_append]
          by_cases c2 : kind = 2
          · have d3 : Dec (kind = 2) true := dec_t c2
            have hstep' : ((steps.map stpP).take (k + 1)).foldlM runRS (l0, []) = some (l', rl.map Res.pl ++ [(⟨code, dd, rn, names.xs, rkind, rsize⟩ : RP)]) := by rw [hstep]; simp only [if_pos c2]
            repeat (first | refine j_addN (by omega) rfl ?_ | refine j_subN (by omega) rfl ?_ | refine j_mulN (by omega) rfl ?_ | refine j_remN (by omega) rfl ?_ | refine j_addI (by omega) (by omega) rfl ?_ | refine j_subI (by omega) (by omega) rfl ?_ | refine j_op rfl ?_ | refine j_pickF rfl ?_ | refine j_pickT rfl ?_ | refine j_region ?_ | refine j_nil ?_ | refine j_then ?_ | refine j_mono (by assumption) ?_ | (refine j_seq fun K hK => ?_) | refine j_gdo rfl ?_ | refine j_gskip_t rfl ?_ | refine j_gskip_f rfl ?_ | refine j_gskip_u rfl ?_ | refine j_gspec rfl ?_ | refine j_block ?_ | refine j_ret ?_ | refine j_then_ret ?_ | refine j_in_ret ?_ | refine j_in_normal ?_ | refine j_exit ?_ | refine j_then_exit ?_ | refine j_in_exit ?_ | refine j_in_past ?_ | refine j_skip ?_ | refine j_cond_t ?_ | refine j_cond_f ?_ | refine j_store rfl ?_ | refine j_still_nil ?_ | (refine j_buildSlice rfl rfl rfl rfl fun bx => ?_) | (refine j_alloc rfl fun bx => ?_) | (refine j_box rfl fun bx => ?_))
            refine j_append (by first | rfl | simp) rfl rfl (by (try simp only [List.length_append, List.length_cons, List.length_nil]); omega) ?_
            intro A4 c4
            repeat (first | refine j_addN (by omega) rfl ?_ | refine j_subN (by omega) rfl ?_ | refine j_mulN (by omega) rfl ?_ | refine j_remN (by omega) rfl ?_ | refine j_addI (by omega) (by omega) rfl ?_ | refine j_subI (by omega) (by omega) rfl ?_ | refine j_op rfl ?_ | refine j_pickF rfl ?_ | refine j_pickT rfl ?_ | refine j_region ?_ | refine j_nil ?_ | refine j_then ?_ | refine j_mono (by assumption) ?_ | (refine j_seq fun K hK => ?_) | refine j_gdo rfl ?_ | refine j_gskip_t rfl ?_ | refine j_gskip_f rfl ?_ | refine j_gskip_u rfl ?_ | refine j_gspec rfl ?_ | refine j_block ?_ | refine j_ret ?_ | refine j_then_ret ?_ | refine j_in_ret ?_ | refine j_in_normal ?_ | refine j_exit ?_ | refine j_then_exit ?_ | refine j_in_exit ?_ | refine j_in_past ?_ | refine j_skip ?_ | refine j_cond_t ?_ | refine j_cond_f ?_ | refine j_store rfl ?_ | refine j_still_nil ?_ | (refine j_buildSlice rfl rfl rfl rfl fun bx => ?_) | (refine j_alloc rfl fun bx => ?_) | (refine j_box rfl fun bx => ?_))
            refine j_back (steps.length - (k + 1)) _ _ ⟨k + 1, l', rl ++ [⟨code, dd, rn, ⟨A3, c3, names.xs⟩, rkind, rsize⟩], A4, c4, D2, q2, by omega, rfl, by rw [hrn]; exact hstep', by simp [hrl], ⟨by omega, hl2⟩, rfl, rfl⟩ (by omega) (by (first | exact sub_nil | (repeat' (first | exact sub_nil | refine sub_cons inferInstance rfl ?_)))) ?_
            refine LE.trans (LE.picks (M := [namR ⟨code, dd, rn, ⟨A3, c3, names.xs⟩, rkind, rsize⟩, allR namR rl, own encRes A4 c4 (rl ++ [⟨code, dd, rn, ⟨A3, c3, names.xs⟩, rkind, rsize⟩]), own encFl D2 q2 l', cells b8 0 [.slice A4 (rl ++ [(⟨code, dd, rn, ⟨A3, c3, names.xs⟩, rkind, rsize⟩ : Res)]).length c4, .slice none 0 0], cells bo 0 [.slice none 0 0, .slice none 0 0], cells bp 0 [.slice A slots.length c, .slice B steps.length d]]) (.cons (show Pick (own encS A3 c3 names.xs) _ _ by (first | exact Pick.here | exact Pick.there Pick.here | exact Pick.there (Pick.there Pick.here) | exact Pick.there (Pick.there (Pick.there Pick.here)) | exact Pick.there (Pick.there (Pick.there (Pick.there Pick.here))) | exact Pick.there (Pick.there (Pick.there (Pick.there (Pick.there Pick.here)))) | exact Pick.there (Pick.there (Pick.there (Pick.there (Pick.there (Pick.there Pick.here))))))) (by (repeat' (first | exact Pick.here | apply Pick.there | apply Picks.cons | exact Picks.nil)))) (LE.refl _)) ?_
            exact LE.trans LE.allSnoc (LE.sub (by (repeat' (first | exact Pick.here | apply Pick.there | apply Picks.cons | exact Picks.nil))))
          · have d3 : Dec (kind = 2) false := dec_f c2
            have hstep' : ((steps.map stpP).take (k + 1)).foldlM runRS (l0, []) = some (l', rl.map Res.pl ++ [(⟨code, rdata, rn, names.xs, rkind, rsize⟩ : RP)]) := by rw [hstep]; simp only [if_neg c2]
            repeat (first | refine j_addN (by omega) rfl ?_ | refine j_subN (by omega) rfl ?_ | refine j_mulN (by omega) rfl ?_ | refine j_remN (by omega) rfl ?_ | refine j_addI (by omega) (by omega) rfl ?_ | refine j_subI (by omega) (by omega) rfl ?_ | refine j_op rfl ?_ | refine j_pickF rfl ?_ | refine j_pickT rfl ?_ | refine j_region ?_ | refine j_nil ?_ | refine j_then ?_ | refine j_mono (by assumption) ?_ | (refine j_seq fun K hK => ?_) | refine j_gdo rfl ?_ | refine j_gskip_t rfl ?_ | refine j_gskip_f rfl ?_ | refine j_gskip_u rfl ?_ | refine j_gspec rfl ?_ | refine j_block ?_ | refine j_ret ?_ | refine j_then_ret ?_ | refine j_in_ret ?_ | refine j_in_normal ?_ | refine j_exit ?_ | refine j_then_exit ?_ | refine j_in_exit ?_ | refine j_in_past ?_ | refine j_skip ?_ | refine j_cond_t ?_ | refine j_cond_f ?_ | refine j_store rfl ?_ | refine j_still_nil ?_ | (refine j_buildSlice rfl rfl rfl rfl fun bx => ?_) | (refine j_alloc rfl fun bx => ?_) | (refine j_box rfl fun bx => ?_))
            refine j_append (by first | rfl | simp) rfl rfl (by (try simp only [List.length_append, List.length_cons, List.length_nil]); omega) ?_
            intro A4 c4
            repeat (first | refine j_addN (by omega) rfl ?_ | refine j_subN (by omega) rfl ?_ | refine j_mulN (by omega) rfl ?_ | refine j_remN (by omega) rfl ?_ | refine j_addI (by omega) (by omega) rfl ?_ | refine j_subI (by omega) (by omega) rfl ?_ | refine j_op rfl ?_ | refine j_pickF rfl ?_ | refine j_pickT rfl ?_ | refine j_region ?_ | refine j_nil ?_ | refine j_then ?_ | refine j_mono (by assumption) ?_ | (refine j_seq fun K hK => ?_) | refine j_gdo rfl ?_ | refine j_gskip_t rfl ?_ | refine j_gskip_f rfl ?_ | refine j_gskip_u rfl ?_ | refine j_gspec rfl ?_ | refine j_block ?_ | refine j_ret ?_ | refine j_then_ret ?_ | refine j_in_ret ?_ | refine j_in_normal ?_ | refine j_exit ?_ | refine j_then_exit ?_ | refine j_in_exit ?_ | refine j_in_past ?_ | refine j_skip ?_ | refine j_cond_t ?_ | refine j_cond_f ?_ | refine j_store rfl ?_ | refine j_still_nil ?_ | (refine j_buildSlice rfl rfl rfl rfl fun bx => ?_) | (refine j_alloc rfl fun bx => ?_) | (refine j_box rfl fun bx => ?_))
            refine j_back (steps.length - (k + 1)) _ _ ⟨k + 1, l', rl ++ [⟨code, rdata, rn, ⟨A3, c3, names.xs⟩, rkind, rsize⟩], A4, c4, D2, q2, by omega, rfl, by rw [hrn]; exact hstep', by simp [hrl], ⟨by omega, hl2⟩, rfl, rfl⟩ (by omega) (by (first | exact sub_nil | (repeat' (first | exact sub_nil | refine sub_cons inferInstance rfl ?_)))) ?_
            refine LE.trans (LE.picks (M := [namR ⟨code, rdata, rn, ⟨A3, c3, names.xs⟩, rkind, rsize⟩, allR namR rl, own encRes A4 c4 (rl ++ [⟨code, rdata, rn, ⟨A3, c3, names.xs⟩, rkind, rsize⟩]), own encFl D2 q2 l', cells b8 0 [.slice A4 (rl ++ [(⟨code, rdata, rn, ⟨A3, c3, names.xs⟩, rkind, rsize⟩ : Res)]).length c4, .slice none 0 0], cells bo 0 [.slice none 0 0, .slice none 0 0], cells bp 0 [.slice A slots.length c, .slice B steps.length d]]) (.cons (show Pick (own encS A3 c3 names.xs) _ _ by (first | exact Pick.here | exact Pick.there Pick.here | exact Pick.there (Pick.there Pick.here) | exact Pick.there (Pick.there (Pick.there Pick.here)) | exact Pick.there (Pick.there (Pick.there (Pick.there Pick.here))) | exact Pick.there (Pick.there (Pick.there (Pick.there (Pick.there Pick.here)))) | exact Pick.there (Pick.there (Pick.there (Pick.there (Pick.there (Pick.there Pick.here))))))) (by (repeat' (first | exact Pick.here | apply Pick.there | apply Picks.cons | exact Picks.nil)))) (LE.refl _)) ?_
            exact LE.trans LE.allSnoc (LE.sub (by (repeat' (first | exact Pick.here | apply Pick.there | apply Picks.cons | exact Picks.nil))))
      · have hcond : (Dec (code = 0) false) ∨ (Dec (code = 0) true ∧ Dec (kind ≠ 0) false) := if h0 : code = 0 then .inr ⟨dec_t h0, dec_f fun hh => c1 ⟨h0, hh⟩⟩ else .inl (dec_f h0)
        rw [runRS_no c1] at hstep
        rcases hcond with d1 | ⟨d1, d2⟩
        all_goals
          repeat (first | refine j_addN (by omega) rfl ?_ | refine j_subN (by omega) rfl ?_ | refine j_mulN (by omega) rfl ?_ | refine j_remN (by omega) rfl ?_ | refine j_addI (by omega) (by omega) rfl ?_ | refine j_subI (by omega) (by omega) rfl ?_ | refine j_op rfl ?_ | refine j_pickF rfl ?_ | refine j_pickT rfl ?_ | refine j_region ?_ | refine j_nil ?_ | refine j_then ?_ | refine j_mono (by assumption) ?_ | (refine j_seq fun K hK => ?_) | refine j_gdo rfl ?_ | refine j_gskip_t rfl ?_ | refine j_gskip_f rfl ?_ | refine j_gskip_u rfl ?_ | refine j_gspec rfl ?_ | refine j_block ?_ | refine j_ret ?_ | refine j_then_ret ?_ | refine j_in_ret ?_ | refine j_in_normal ?_ | refine j_exit ?_ | refine j_then_exit ?_ | refine j_in_exit ?_ | refine j_in_past ?_ | refine j_skip ?_ | refine j_cond_t ?_ | refine j_cond_f ?_ | refine j_store rfl ?_ | refine j_still_nil ?_ | (refine j_buildSlice rfl rfl rfl rfl fun bx => ?_) | (refine j_alloc rfl fun bx => ?_) | (refine j_box rfl fun bx => ?_))
          refine j_append (by first | rfl | simp) rfl rfl (by (try simp only [List.length_append, List.length_cons, List.length_nil]); omega) ?_
          intro A4 c4
          repeat (first | refine j_addN (by omega) rfl ?_ | refine j_subN (by omega) rfl ?_ | refine j_mulN (by omega) rfl ?_ | refine j_remN (by omega) rfl ?_ | refine j_addI (by omega) (by omega) rfl ?_ | refine j_subI (by omega) (by omega) rfl ?_ | refine j_op rfl ?_ | refine j_pickF rfl ?_ | refine j_pickT rfl ?_ | refine j_region ?_ | refine j_nil ?_ | refine j_then ?_ | refine j_mono (by assumption) ?_ | (refine j_seq fun K hK => ?_) | refine j_gdo rfl ?_ | refine j_gskip_t rfl ?_ | refine j_gskip_f rfl ?_ | refine j_gskip_u rfl ?_ | refine j_gspec rfl ?_ | refine j_block ?_ | refine j_ret ?_ | refine j_then_ret ?_ | refine j_in_ret ?_ | refine j_in_normal ?_ | refine j_exit ?_ | refine j_then_exit ?_ | refine j_in_exit ?_ | refine j_in_past ?_ | refine j_skip ?_ | refine j_cond_t ?_ | refine j_cond_f ?_ | refine j_store rfl ?_ | refine j_still_nil ?_ | (refine j_buildSlice rfl rfl rfl rfl fun bx => ?_) | (refine j_alloc rfl fun bx => ?_) | (refine j_box rfl fun bx => ?_))
          refine j_back (steps.length - (k + 1)) _ _ ⟨k + 1, l, rl ++ [⟨code, rdata, rn, ⟨A3, c3, names.xs⟩, rkind, rsize⟩], A4, c4, D, q, by omega, rfl, by rw [hrn]; exact hstep, by simp [hrl], ⟨by omega, hlz⟩, rfl, rfl⟩ (by omega) (by (first | exact sub_nil | (repeat' (first | exact sub_nil | refine sub_cons inferInstance rfl ?_)))) ?_
          refine LE.trans (LE.picks (M := [namR ⟨code, rdata, rn, ⟨A3, c3, names.xs⟩, rkind, rsize⟩, allR namR rl, own encRes A4 c4 (rl ++ [⟨code, rdata, rn, ⟨A3, c3, names.xs⟩, rkind, rsize⟩]), own encFl D q l, cells b8 0 [.slice A4 (rl ++ [(⟨code, rdata, rn, ⟨A3, c3, names.xs⟩, rkind, rsize⟩ : Res)]).length c4, .slice none 0 0], cells bo 0 [.slice none 0 0, .slice none 0 0], cells bp 0 [.slice A slots.length c, .slice B steps.length d]]) (.cons (show Pick (own encS A3 c3 names.xs) _ _ by (first | exact Pick.here | exact Pick.there Pick.here | exact Pick.there (Pick.there Pick.here) | exact Pick.there (Pick.there (Pick.there Pick.here)) | exact Pick.there (Pick.there (Pick.there (Pick.there Pick.here))) | exact Pick.there (Pick.there (Pick.there (Pick.there (Pick.there Pick.here)))) | exact Pick.there (Pick.there (Pick.there (Pick.there (Pick.there (Pick.there Pick.here))))))) (by (repeat' (first | exact Pick.here | apply Pick.there | apply Picks.cons | exact Picks.nil)))) (LE.refl _)) ?_
          exact LE.trans LE.allSnoc (LE.sub (by (repeat' (first | exact Pick.here | apply Pick.there | apply Picks.cons | exact Picks.nil))))
    · simp only [Bool.or_eq_true, Bool.and_eq_true, Bool.or_eq_false_iff, Bool.and_eq_false_iff, Bool.not_eq_true', Bool.not_eq_false', decide_eq_true_eq, decide_eq_false_iff_not, ne_eq, Decidable.not_not] at h
      have hke : k = (steps.map stpP).length := by rw [List.length_map]; omega
      rw [hke, List.take_length] at hfold
      rw [hfold, Option.bind_some] at hr
      repeat (first | refine j_addN (by omega) rfl ?_ | refine j_subN (by omega) rfl ?_ | refine j_mulN (by omega) rfl ?_ | refine j_remN (by omega) rfl ?_ | refine j_addI (by omega) (by omega) rfl ?_ | refine j_subI (by omega) (by omega) rfl ?_ | refine j_op rfl ?_ | refine j_pickF rfl ?_ | refine j_pickT rfl ?_ | refine j_region ?_ | refine j_nil ?_ | refine j_then ?_ | refine j_mono (by assumption) ?_ | (refine j_seq fun K hK => ?_) | refine j_gdo rfl ?_ | refine j_gskip_t rfl ?_ | refine j_gskip_f rfl ?_ | refine j_gskip_u rfl ?_ | refine j_gspec rfl ?_ | refine j_block ?_ | refine j_ret ?_ | refine j_then_ret ?_ | refine j_in_ret ?_ | refine j_in_normal ?_ | refine j_exit ?_ | refine j_then_exit ?_ | refine j_in_exit ?_ | refine j_in_past ?_ | refine j_skip ?_ | refine j_cond_t ?_ | refine j_cond_f ?_ | refine j_store rfl ?_ | refine j_still_nil ?_)
      refine j_call (last_spec A D c q slots l (by omega) (by omega)) rfl .nil (fun F' hF' => ⟨ro1.ext hF', hF'.ro_own⟩) ?_
      cases hq : laR l slots with
      | none =>
        rw [hq] at hr
        cases hr
        rintro _ _ ⟨w, rfl, rfl⟩
        simp only [List.cons_append, List.nil_append]
        repeat (first | refine j_addN (by omega) rfl ?_ | refine j_subN (by omega) rfl ?_ | refine j_mulN (by omega) rfl ?_ | refine j_remN (by omega) rfl ?_ | refine j_addI (by omega) (by omega) rfl ?_ | refine j_subI (by omega) (by omega) rfl ?_ | refine j_op rfl ?_ | refine j_pickF rfl ?_ | refine j_pickT rfl ?_ | refine j_region ?_ | refine j_nil ?_ | refine j_then ?_ | refine j_mono (by assumption) ?_ | (refine j_seq fun K hK => ?_) | refine j_gdo rfl ?_ | refine j_gskip_t rfl ?_ | refine j_gskip_f rfl ?_ | refine j_gskip_u rfl ?_ | refine j_gspec rfl ?_ | refine j_block ?_ | refine j_ret ?_ | refine j_then_ret ?_ | refine j_in_ret ?_ | refine j_in_normal ?_ | refine j_exit ?_ | refine j_then_exit ?_ | refine j_in_exit ?_ | refine j_in_past ?_ | refine j_skip ?_ | refine j_cond_t ?_ | refine j_cond_f ?_ | refine j_store rfl ?_ | refine j_still_nil ?_)
        (first | refine j_done (.inl rfl) ?_ | refine j_done (.inr rfl) ?_ | refine j_doneM (.inl rfl) ?_ | refine j_doneM (.inr rfl) ?_)
        exact ⟨_, ⟨rfl, rfl⟩, LE.nil⟩
      | some outs =>
        rw [hq] at hr
        cases hr
        rintro _ _ ⟨A3, c3, rfl, rfl⟩
        simp only [List.cons_append, List.nil_append]
        repeat (first | refine j_addN (by omega) rfl ?_ | refine j_subN (by omega) rfl ?_ | refine j_mulN (by omega) rfl ?_ | refine j_remN (by omega) rfl ?_ | refine j_addI (by omega) (by omega) rfl ?_ | refine j_subI (by omega) (by omega) rfl ?_ | refine j_op rfl ?_ | refine j_pickF rfl ?_ | refine j_pickT rfl ?_ | refine j_region ?_ | refine j_nil ?_ | refine j_then ?_ | refine j_mono (by assumption) ?_ | (refine j_seq fun K hK => ?_) | refine j_gdo rfl ?_ | refine j_gskip_t rfl ?_ | refine j_gskip_f rfl ?_ | refine j_gskip_u rfl ?_ | refine j_gspec rfl ?_ | refine j_block ?_ | refine j_ret ?_ | refine j_then_ret ?_ | refine j_in_ret ?_ | refine j_in_normal ?_ | refine j_exit ?_ | refine j_then_exit ?_ | refine j_in_exit ?_ | refine j_in_past ?_ | refine j_skip ?_ | refine j_cond_t ?_ | refine j_cond_f ?_ | refine j_store rfl ?_ | refine j_still_nil ?_)
        (first | refine j_done (.inl rfl) ?_ | refine j_done (.inr rfl) ?_ | refine j_doneM (.inl rfl) ?_ | refine j_doneM (.inr rfl) ?_)
        exact ⟨_, ⟨A2, c2, rl, A3, c3, rfl, rfl, rfl⟩, (LE.sub (by (repeat' (first | exact Pick.here | apply Pick.there | apply Picks.cons | exact Picks.nil))))⟩
end Go.Proofs.YtcoohckdnefacaaDoor.S
