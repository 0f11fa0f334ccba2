/- exec: walks of begin and end -/
import Derived.Test.YtcoohckdnefacaaDoorEF
namespace Go.Proofs.YtcoohckdnefacaaDoor.S
open Go.RowKit
set_option linter.unusedVariables false
set_option linter.unusedSimpArgs false
set_option maxRecDepth 100000
set_option maxHeartbeats 4000000
set_option synthInstance.maxHeartbeats 400000
set_option synthInstance.maxSize 4000
attribute [local irreducible] wpList Code.wp Exit.then Exit.inBlock stillR bodyPost hR J Back Mid
theorem foldlM_take {α σ : Type} {f : σ → α → Option σ} {l : List α} {k : Nat} {x : α} (hx : l[k]? = some x) (s : σ) : (l.take (k + 1)).foldlM f s = ((l.take k).foldlM f s).bind fun s => f s x := by
  rw [List.take_add_one, hx, List.foldlM_append]
  show ((l.take k).foldlM f s >>= fun init => [x].foldlM f init) = _
  cases (l.take k).foldlM f s with
  | none => rfl
  | some q =>
    show (f q x >>= fun s => some s) = f q x
    cases f q x <;> rfl
theorem foldlM_none {α σ : Type} {f : σ → α → Option σ} {l : List α} {k : Nat} {s : σ} (h : (l.take k).foldlM f s = none) : l.foldlM f s = none := by
  rw [← List.take_append_drop k l, List.foldlM_append, h]
  rfl
/-- What begin answers. -/
def BeginQ (r : Option Live) (v : Value) (L : List Hp) : Prop := match r with
  | none => v = .tuple #[.pointer none, .bool false] ∧ L = []
  | some l => ∃ b, v = .tuple #[ptr b 0, .bool true] ∧ L = [deskR b l]
theorem begin_spec (A B : Option Addr) (c d : Nat) (slots : List Slt) (cs : List ByteArray) (hs : slots.length ≤ 9223372036854775807) (hcs : ∀ s ∈ cs, s.size ≤ 140737488351232) : Spec Tryd.prog 23 [.slice A slots.length c, .slice B cs.length d] [] (fun F => RO F encSlt A slots ∧ RO F encS B cs) (BeginQ (beginF slots cs)) := by
  generalize hr : beginF slots cs = res
  refine spec_of Tryd.func23 rfl Tryd.ntmps23 fun F hF => ?_
  obtain ⟨ro1, ro2⟩ := hF
  unfold beginF at hr
  by_cases hne : slots.length = cs.length
  · rw [if_pos hne] at hr
    have d1 : Dec ((slots.length : Int) ≠ cs.length) false := dec_f (by omega)
    repeat (first | refine j_addN (by omega) rfl ?_ | refine j_subN (by omega) rfl ?_ | refine j_mulN (by omega) rfl ?_ | refine j_remN (by omega) rfl ?_ | refine j_addI (by omega) (by omega) rfl ?_ | refine j_subI (by omega) (by omega) rfl ?_ | refine j_op rfl ?_ | refine j_pickF rfl ?_ | refine j_pickT rfl ?_ | refine j_region ?_ | refine j_nil ?_ | refine j_then ?_ | refine j_mono (by assumption) ?_ | (refine j_seq fun K hK => ?_) | refine j_gdo rfl ?_ | refine j_gskip_t rfl ?_ | refine j_gskip_f rfl ?_ | refine j_gskip_u rfl ?_ | refine j_gspec rfl ?_ | refine j_block ?_ | refine j_ret ?_ | refine j_then_ret ?_ | refine j_in_ret ?_ | refine j_in_normal ?_ | refine j_exit ?_ | refine j_then_exit ?_ | refine j_in_exit ?_ | refine j_in_past ?_ | refine j_skip ?_ | refine j_cond_t ?_ | refine j_cond_f ?_ | refine j_store rfl ?_ | refine j_still_nil ?_ | (refine j_buildSlice rfl rfl rfl rfl fun bx => ?_) | (refine j_alloc rfl fun bx => ?_) | (refine j_box rfl fun bx => ?_))
    refine j_makeMap (Value.int .i64) slV rfl fun r0 => ?_
    repeat (first | refine j_addN (by omega) rfl ?_ | refine j_subN (by omega) rfl ?_ | refine j_mulN (by omega) rfl ?_ | refine j_remN (by omega) rfl ?_ | refine j_addI (by omega) (by omega) rfl ?_ | refine j_subI (by omega) (by omega) rfl ?_ | refine j_op rfl ?_ | refine j_pickF rfl ?_ | refine j_pickT rfl ?_ | refine j_region ?_ | refine j_nil ?_ | refine j_then ?_ | refine j_mono (by assumption) ?_ | (refine j_seq fun K hK => ?_) | refine j_gdo rfl ?_ | refine j_gskip_t rfl ?_ | refine j_gskip_f rfl ?_ | refine j_gskip_u rfl ?_ | refine j_gspec rfl ?_ | refine j_block ?_ | refine j_ret ?_ | refine j_then_ret ?_ | refine j_in_ret ?_ | refine j_in_normal ?_ | refine j_exit ?_ | refine j_then_exit ?_ | refine j_in_exit ?_ | refine j_in_past ?_ | refine j_skip ?_ | refine j_cond_t ?_ | refine j_cond_f ?_ | refine j_store rfl ?_ | refine j_still_nil ?_ | (refine j_buildSlice rfl rfl rfl rfl fun bx => ?_) | (refine j_alloc rfl fun bx => ?_) | (refine j_box rfl fun bx => ?_))
    generalize bx = b
    have hzl : (slots.zip cs).length = slots.length := by rw [List.length_zip]; omega
    refine j_le (LE.allNil (R := rowR)) ?_
    refine j_fold (deskR b []) (deskR_eq b []) ⟨r0, [], rfl, by simp [keys], (fun p hp => by cases hp), rfl⟩ (by (repeat' (first | exact Pick.here | apply Pick.there | apply Picks.cons | exact Picks.nil))) ?_
    refine j_loop (fun m e L => ∃ k l, k ≤ slots.length ∧ m = slots.length - k ∧ ((slots.zip cs).take k).foldlM beginStep [] = some l ∧ e = [(1, .slice B cs.length d), (6, .pointer (some ⟨b, 0, none⟩)), (19, .slice A slots.length c), (20, .int .i64 (slots.length : Int)), (21, .int .i64 (k : Int))] ∧ L = [deskR b l]) slots.length _ _ ⟨0, [], by omega, rfl, rfl, rfl, rfl⟩ (by (first | exact sub_nil | (repeat' (first | exact sub_nil | refine sub_cons inferInstance rfl ?_)))) (LE.sub (by (repeat' (first | exact Pick.here | apply Pick.there | apply Picks.cons | exact Picks.nil)))) ?_
    rintro m e L ⟨k, l, hk, rfl, hfold, rfl, rfl⟩
    repeat (first | refine j_addN (by omega) rfl ?_ | refine j_subN (by omega) rfl ?_ | refine j_mulN (by omega) rfl ?_ | refine j_remN (by omega) rfl ?_ | refine j_addI (by omega) (by omega) rfl ?_ | refine j_subI (by omega) (by omega) rfl ?_ | refine j_op rfl ?_ | refine j_pickF rfl ?_ | refine j_pickT rfl ?_ | refine j_region ?_ | refine j_nil ?_ | refine j_then ?_ | refine j_mono (by assumption) ?_ | (refine j_seq fun K hK => ?_) | refine j_gdo rfl ?_ | refine j_gskip_t rfl ?_ | refine j_gskip_f rfl ?_ | refine j_gskip_u rfl ?_ | refine j_gspec rfl ?_ | refine j_block ?_ | refine j_ret ?_ | refine j_then_ret ?_ | refine j_in_ret ?_ | refine j_in_normal ?_ | refine j_exit ?_ | refine j_then_exit ?_ | refine j_in_exit ?_ | refine j_in_past ?_ | refine j_skip ?_ | refine j_cond_t ?_ | refine j_cond_f ?_ | refine j_store rfl ?_ | refine j_still_nil ?_ | (refine j_buildSlice rfl rfl rfl rfl fun bx => ?_) | (refine j_alloc rfl fun bx => ?_) | (refine j_box rfl fun bx => ?_))
    refine j_cond (fun h => ?_) (fun h => ?_)
    · simp only [Bool.or_eq_true, Bool.and_eq_true, Bool.or_eq_false_iff, Bool.and_eq_false_iff, Bool.not_eq_true', Bool.not_eq_false', decide_eq_true_eq, decide_eq_false_iff_not, ne_eq, Decidable.not_not] at h
      have hx := List.getElem?_eq_getElem (show k < slots.length by omega)
      have hy := List.getElem?_eq_getElem (show k < cs.length by omega)
      have hysz := hcs cs[k] (List.getElem_mem _)
      have hz : (slots.zip cs)[k]? = some (slots[k], cs[k]) := by
        rw [List.getElem?_eq_getElem (by omega), List.getElem_zip]
      generalize slots[k] = x at hx hz
      generalize cs[k] = y at hy hz hysz
      obtain ⟨object, was, file, bucket⟩ := x
      have hat : At slots k ⟨object, was, file, bucket⟩ := ⟨hx⟩
      have hat2 : At cs k y := ⟨hy⟩
      have hlt : Ft (k < cs.length) := ⟨by omega⟩
      have hstep := foldlM_take (f := beginStep) hz []
      rw [hfold, Option.bind_some] at hstep
      by_cases c1 : was = -1 ∧ y = ⟨#[]⟩
      · have d2 : Dec (was = -1) true := dec_t c1.1
        have d3 : Dec (y = ⟨#[]⟩) true := dec_t c1.2
        have e1 : beginStep l (⟨object, was, file, bucket⟩, y) = some l := by unfold beginStep; exact if_pos c1
        rw [e1] at hstep
        repeat (first | refine j_addN (by omega) rfl ?_ | refine j_subN (by omega) rfl ?_ | refine j_mulN (by omega) rfl ?_ | refine j_remN (by omega) rfl ?_ | refine j_addI (by omega) (by omega) rfl ?_ | refine j_subI (by omega) (by omega) rfl ?_ | refine j_op rfl ?_ | refine j_pickF rfl ?_ | refine j_pickT rfl ?_ | refine j_region ?_ | refine j_nil ?_ | refine j_then ?_ | refine j_mono (by assumption) ?_ | (refine j_seq fun K hK => ?_) | refine j_gdo rfl ?_ | refine j_gskip_t rfl ?_ | refine j_gskip_f rfl ?_ | refine j_gskip_u rfl ?_ | refine j_gspec rfl ?_ | refine j_block ?_ | refine j_ret ?_ | refine j_then_ret ?_ | refine j_in_ret ?_ | refine j_in_normal ?_ | refine j_exit ?_ | refine j_then_exit ?_ | refine j_in_exit ?_ | refine j_in_past ?_ | refine j_skip ?_ | refine j_cond_t ?_ | refine j_cond_f ?_ | refine j_store rfl ?_ | refine j_still_nil ?_ | (refine j_buildSlice rfl rfl rfl rfl fun bx => ?_) | (refine j_alloc rfl fun bx => ?_) | (refine j_box rfl fun bx => ?_))
        exact j_back (slots.length - (k + 1)) _ _ ⟨k + 1, l, by omega, rfl, hstep, rfl, rfl⟩ (by omega) (by (first | exact sub_nil | (repeat' (first | exact sub_nil | refine sub_cons inferInstance rfl ?_)))) (LE.sub (by (repeat' (first | exact Pick.here | apply Pick.there | apply Picks.cons | exact Picks.nil))))
      refine j_exs (deskR_eq b l) (by (first | exact Pick.here | exact Pick.there Pick.here | exact Pick.there (Pick.there Pick.here) | exact Pick.there (Pick.there (Pick.there Pick.here)) | exact Pick.there (Pick.there (Pick.there (Pick.there Pick.here))) | exact Pick.there (Pick.there (Pick.there (Pick.there (Pick.there Pick.here)))) | exact Pick.there (Pick.there (Pick.there (Pick.there (Pick.there (Pick.there Pick.here))))))) ?_; rintro _ ⟨r, ms, rfl, hnd, hln, rfl⟩; simp only [List.cons_append, List.nil_append]
      have hms : List.map (fun (p : Int × Sl UInt8) => (p.1, p.2.xs)) ms = ms.map slf := rfl
      rw [hms] at hstep hfold
      have e0 : beginStep (ms.map slf) (⟨object, was, file, bucket⟩, y) = if (mget (ms.map slf) was).isSome ∨ was ≤ -1 then none else some (mput (ms.map slf) was y.data.toList) := by unfold beginStep; exact if_neg c1
      rw [e0, mget_slf] at hstep
      clear e0
      have hcond : (Dec (was = -1) true ∧ Dec (y = ⟨#[]⟩) false) ∨ Dec (was = -1) false := if h0 : was = -1 then .inl ⟨dec_t h0, dec_f fun hh => c1 ⟨h0, hh⟩⟩ else .inr (dec_f h0)
      cases hg : mget ms was with
      | some s =>
        have hm : MG ms was (some s) := ⟨hg⟩
        rw [hg, if_pos (.inl rfl)] at hstep
        cases (foldlM_none hstep).symm.trans hr
        rcases hcond with ⟨d2, d3⟩ | d2
        all_goals
          repeat (first | refine j_addN (by omega) rfl ?_ | refine j_subN (by omega) rfl ?_ | refine j_mulN (by omega) rfl ?_ | refine j_remN (by omega) rfl ?_ | refine j_addI (by omega) (by omega) rfl ?_ | refine j_subI (by omega) (by omega) rfl ?_ | refine j_op rfl ?_ | refine j_pickF rfl ?_ | refine j_pickT rfl ?_ | refine j_region ?_ | refine j_nil ?_ | refine j_then ?_ | refine j_mono (by assumption) ?_ | (refine j_seq fun K hK => ?_) | refine j_gdo rfl ?_ | refine j_gskip_t rfl ?_ | refine j_gskip_f rfl ?_ | refine j_gskip_u rfl ?_ | refine j_gspec rfl ?_ | refine j_block ?_ | refine j_ret ?_ | refine j_then_ret ?_ | refine j_in_ret ?_ | refine j_in_normal ?_ | refine j_exit ?_ | refine j_then_exit ?_ | refine j_in_exit ?_ | refine j_in_past ?_ | refine j_skip ?_ | refine j_cond_t ?_ | refine j_cond_f ?_ | refine j_store rfl ?_ | refine j_still_nil ?_ | (refine j_buildSlice rfl rfl rfl rfl fun bx => ?_) | (refine j_alloc rfl fun bx => ?_) | (refine j_box rfl fun bx => ?_))
          refine j_region_still mixed (by kernel_rfl) ?_
          repeat (first | refine j_addN (by omega) rfl ?_ | refine j_subN (by omega) rfl ?_ | refine j_mulN (by omega) rfl ?_ | refine j_remN (by omega) rfl ?_ | refine j_addI (by omega) (by omega) rfl ?_ | refine j_subI (by omega) (by omega) rfl ?_ | refine j_op rfl ?_ | refine j_pickF rfl ?_ | refine j_pickT rfl ?_ | refine j_region ?_ | refine j_nil ?_ | refine j_then ?_ | refine j_mono (by assumption) ?_ | (refine j_seq fun K hK => ?_) | refine j_gdo rfl ?_ | refine j_gskip_t rfl ?_ | refine j_gskip_f rfl ?_ | refine j_gskip_u rfl ?_ | refine j_gspec rfl ?_ | refine j_block ?_ | refine j_ret ?_ | refine j_then_ret ?_ | refine j_in_ret ?_ | refine j_in_normal ?_ | refine j_exit ?_ | refine j_then_exit ?_ | refine j_in_exit ?_ | refine j_in_past ?_ | refine j_skip ?_ | refine j_cond_t ?_ | refine j_cond_f ?_ | refine j_store rfl ?_ | refine j_still_nil ?_ | (refine j_buildSlice rfl rfl rfl rfl fun bx => ?_) | (refine j_alloc rfl fun bx => ?_) | (refine j_box rfl fun bx => ?_))
          (first | refine j_done (.inl rfl) ?_ | refine j_done (.inr rfl) ?_ | refine j_doneM (.inl rfl) ?_ | refine j_doneM (.inr rfl) ?_)
          exact ⟨_, ⟨rfl, rfl⟩, LE.nil⟩
      | none =>
        have hm : MG ms was none := ⟨hg⟩
        rw [hg] at hstep
        by_cases c2 : was ≤ -1
        · rw [if_pos (.inr c2)] at hstep
          cases (foldlM_none hstep).symm.trans hr
          have d4 : Dec (was ≤ -1) true := dec_t c2
          rcases hcond with ⟨d2, d3⟩ | d2
          all_goals
            repeat (first | refine j_addN (by omega) rfl ?_ | refine j_subN (by omega) rfl ?_ | refine j_mulN (by omega) rfl ?_ | refine j_remN (by omega) rfl ?_ | refine j_addI (by omega) (by omega) rfl ?_ | refine j_subI (by omega) (by omega) rfl ?_ | refine j_op rfl ?_ | refine j_pickF rfl ?_ | refine j_pickT rfl ?_ | refine j_region ?_ | refine j_nil ?_ | refine j_then ?_ | refine j_mono (by assumption) ?_ | (refine j_seq fun K hK => ?_) | refine j_gdo rfl ?_ | refine j_gskip_t rfl ?_ | refine j_gskip_f rfl ?_ | refine j_gskip_u rfl ?_ | refine j_gspec rfl ?_ | refine j_block ?_ | refine j_ret ?_ | refine j_then_ret ?_ | refine j_in_ret ?_ | refine j_in_normal ?_ | refine j_exit ?_ | refine j_then_exit ?_ | refine j_in_exit ?_ | refine j_in_past ?_ | refine j_skip ?_ | refine j_cond_t ?_ | refine j_cond_f ?_ | refine j_store rfl ?_ | refine j_still_nil ?_ | (refine j_buildSlice rfl rfl rfl rfl fun bx => ?_) | (refine j_alloc rfl fun bx => ?_) | (refine j_box rfl fun bx => ?_))
            refine j_region_still mixed (by kernel_rfl) ?_
            repeat (first | refine j_addN (by omega) rfl ?_ | refine j_subN (by omega) rfl ?_ | refine j_mulN (by omega) rfl ?_ | refine j_remN (by omega) rfl ?_ | refine j_addI (by omega) (by omega) rfl ?_ | refine j_subI (by omega) (by omega) rfl ?_ | refine j_op rfl ?_ | refine j_pickF rfl ?_ | refine j_pickT rfl ?_ | refine j_region ?_ | refine j_nil ?_ | refine j_then ?_ | refine j_mono (by assumption) ?_ | (refine j_seq fun K hK => ?_) | refine j_gdo rfl ?_ | refine j_gskip_t rfl ?_ | refine j_gskip_f rfl ?_ | refine j_gskip_u rfl ?_ | refine j_gspec rfl ?_ | refine j_block ?_ | refine j_ret ?_ | refine j_then_ret ?_ | refine j_in_ret ?_ | refine j_in_normal ?_ | refine j_exit ?_ | refine j_then_exit ?_ | refine j_in_exit ?_ | refine j_in_past ?_ | refine j_skip ?_ | refine j_cond_t ?_ | refine j_cond_f ?_ | refine j_store rfl ?_ | refine j_still_nil ?_ | (refine j_buildSlice rfl rfl rfl rfl fun bx => ?_) | (refine j_alloc rfl fun bx => ?_) | (refine j_box rfl fun bx => ?_))
            (first | refine j_done (.inl rfl) ?_ | refine j_done (.inr rfl) ?_ | refine j_doneM (.inl rfl) ?_ | refine j_doneM (.inr rfl) ?_)
            exact ⟨_, ⟨rfl, rfl⟩, LE.nil⟩
        · rw [if_neg (by rintro (hh | hh); cases hh; exact c2 hh)] at hstep
          have d4 : Dec (was ≤ -1) false := dec_f c2
          have d2 : Dec (was = -1) false := dec_f (by omega)
          clear hcond
          rw [show allR rowR ms = allR rowR (mdel ms was) by rw [mdel_none hg]]
          have hput : ∀ A' c', LE [own encU A' c' y.data.toList, allR rowR (mdel ms was), cells b 0 [.map (some r)], mapR (Value.int .i64) slV r (mput ms was ⟨A', c', y.data.toList⟩)] [deskR b (mput (ms.map slf) was y.data.toList)] := fun A' c' => by
            refine LE.trans LE.rowPut ?_
            exact LE.fold (deskR_eq b _) ⟨r, mput ms was ⟨A', c', y.data.toList⟩, mput_slf, mput_nodup hnd, fun p hp => by
              rcases mem_put hp with rfl | hp
              · show y.data.toList.length ≤ _
                simp only [Array.length_toList]
                exact hysz
              · exact hln p hp, rfl⟩ (by (repeat' (first | exact Pick.here | apply Pick.there | apply Picks.cons | exact Picks.nil)))
          have hyl : y.data.toList.length = y.size := by simp
          repeat (first | refine j_addN (by omega) rfl ?_ | refine j_subN (by omega) rfl ?_ | refine j_mulN (by omega) rfl ?_ | refine j_remN (by omega) rfl ?_ | refine j_addI (by omega) (by omega) rfl ?_ | refine j_subI (by omega) (by omega) rfl ?_ | refine j_op rfl ?_ | refine j_pickF rfl ?_ | refine j_pickT rfl ?_ | refine j_region ?_ | refine j_nil ?_ | refine j_then ?_ | refine j_mono (by assumption) ?_ | (refine j_seq fun K hK => ?_) | refine j_gdo rfl ?_ | refine j_gskip_t rfl ?_ | refine j_gskip_f rfl ?_ | refine j_gskip_u rfl ?_ | refine j_gspec rfl ?_ | refine j_block ?_ | refine j_ret ?_ | refine j_then_ret ?_ | refine j_in_ret ?_ | refine j_in_normal ?_ | refine j_exit ?_ | refine j_then_exit ?_ | refine j_in_exit ?_ | refine j_in_past ?_ | refine j_skip ?_ | refine j_cond_t ?_ | refine j_cond_f ?_ | refine j_store rfl ?_ | refine j_still_nil ?_ | (refine j_buildSlice rfl rfl rfl rfl fun bx => ?_) | (refine j_alloc rfl fun bx => ?_) | (refine j_box rfl fun bx => ?_))
          refine j_region_still mixed (by kernel_rfl) ?_
          repeat (first | refine j_addN (by omega) rfl ?_ | refine j_subN (by omega) rfl ?_ | refine j_mulN (by omega) rfl ?_ | refine j_remN (by omega) rfl ?_ | refine j_addI (by omega) (by omega) rfl ?_ | refine j_subI (by omega) (by omega) rfl ?_ | refine j_op rfl ?_ | refine j_pickF rfl ?_ | refine j_pickT rfl ?_ | refine j_region ?_ | refine j_nil ?_ | refine j_then ?_ | refine j_mono (by assumption) ?_ | (refine j_seq fun K hK => ?_) | refine j_gdo rfl ?_ | refine j_gskip_t rfl ?_ | refine j_gskip_f rfl ?_ | refine j_gskip_u rfl ?_ | refine j_gspec rfl ?_ | refine j_block ?_ | refine j_ret ?_ | refine j_then_ret ?_ | refine j_in_ret ?_ | refine j_in_normal ?_ | refine j_exit ?_ | refine j_then_exit ?_ | refine j_in_exit ?_ | refine j_in_past ?_ | refine j_skip ?_ | refine j_cond_t ?_ | refine j_cond_f ?_ | refine j_store rfl ?_ | refine j_still_nil ?_ | (refine j_buildSlice rfl rfl rfl rfl fun bx => ?_) | (refine j_alloc rfl fun bx => ?_) | (refine j_box rfl fun bx => ?_))
          refine j_region_hoist (.q 0 (.q 1 (.q 2 (.q 3 (.q 4 (.q 5 (.q 6 (.q 7 (.q 8 (.q 9 (.alt 10 (.alt 11 .done .no) .no))))))))))) [cells b 0 [.map (some r)], cells bx 0 [.int .i64 object, .int .i64 was, .int .i64 file, .int .i64 bucket]] mixed (by kernel_rfl) (by kernel_rfl) (LE.sub (by (repeat' (first | exact Pick.here | apply Pick.there | apply Picks.cons | exact Picks.nil)))) fun hLE => ?_
          simp only [lay, List.getD_cons_zero, List.getD_cons_succ]
          repeat (first | refine j_hq (by assumption) rfl ?_ | refine j_hq_pickF (by assumption) rfl ?_ | refine j_hq_pickT (by assumption) rfl ?_ | refine j_hq_gdo (by assumption) rfl ?_ | refine j_hq_gskip_t (by assumption) rfl ?_ | refine j_hq_gskip_f (by assumption) rfl ?_ | refine j_hq_gskip_u (by assumption) rfl ?_ | refine j_hq_gspec (by assumption) rfl ?_)
          refine j_he ?_
          refine j_strBytes rfl fun A' c' => ?_
          repeat (first | refine j_addN (by omega) rfl ?_ | refine j_subN (by omega) rfl ?_ | refine j_mulN (by omega) rfl ?_ | refine j_remN (by omega) rfl ?_ | refine j_addI (by omega) (by omega) rfl ?_ | refine j_subI (by omega) (by omega) rfl ?_ | refine j_op rfl ?_ | refine j_pickF rfl ?_ | refine j_pickT rfl ?_ | refine j_region ?_ | refine j_nil ?_ | refine j_then ?_ | refine j_mono (by assumption) ?_ | (refine j_seq fun K hK => ?_) | refine j_gdo rfl ?_ | refine j_gskip_t rfl ?_ | refine j_gskip_f rfl ?_ | refine j_gskip_u rfl ?_ | refine j_gspec rfl ?_ | refine j_block ?_ | refine j_ret ?_ | refine j_then_ret ?_ | refine j_in_ret ?_ | refine j_in_normal ?_ | refine j_exit ?_ | refine j_then_exit ?_ | refine j_in_exit ?_ | refine j_in_past ?_ | refine j_skip ?_ | refine j_cond_t ?_ | refine j_cond_f ?_ | refine j_store rfl ?_ | refine j_still_nil ?_ | (refine j_buildSlice rfl rfl rfl rfl fun bx => ?_) | (refine j_alloc rfl fun bx => ?_) | (refine j_box rfl fun bx => ?_))
          (refine j_hn (LE.sub (by (repeat' (first | exact Pick.here | apply Pick.there | apply Picks.cons | exact Picks.nil)))) fun hLE => ?_)
          refine j_he ?_
          rw [← hyl]
          refine j_mapset (⟨A', c', y.data.toList⟩ : Sl UInt8) rfl ?_
          repeat (first | refine j_addN (by omega) rfl ?_ | refine j_subN (by omega) rfl ?_ | refine j_mulN (by omega) rfl ?_ | refine j_remN (by omega) rfl ?_ | refine j_addI (by omega) (by omega) rfl ?_ | refine j_subI (by omega) (by omega) rfl ?_ | refine j_op rfl ?_ | refine j_pickF rfl ?_ | refine j_pickT rfl ?_ | refine j_region ?_ | refine j_nil ?_ | refine j_then ?_ | refine j_mono (by assumption) ?_ | (refine j_seq fun K hK => ?_) | refine j_gdo rfl ?_ | refine j_gskip_t rfl ?_ | refine j_gskip_f rfl ?_ | refine j_gskip_u rfl ?_ | refine j_gspec rfl ?_ | refine j_block ?_ | refine j_ret ?_ | refine j_then_ret ?_ | refine j_in_ret ?_ | refine j_in_normal ?_ | refine j_exit ?_ | refine j_then_exit ?_ | refine j_in_exit ?_ | refine j_in_past ?_ | refine j_skip ?_ | refine j_cond_t ?_ | refine j_cond_f ?_ | refine j_store rfl ?_ | refine j_still_nil ?_ | (refine j_buildSlice rfl rfl rfl rfl fun bx => ?_) | (refine j_alloc rfl fun bx => ?_) | (refine j_box rfl fun bx => ?_))
          (refine j_hn (LE.sub (by (repeat' (first | exact Pick.here | apply Pick.there | apply Picks.cons | exact Picks.nil)))) fun hLE => ?_)
          refine j_hend ?_
          repeat (first | refine j_addN (by omega) rfl ?_ | refine j_subN (by omega) rfl ?_ | refine j_mulN (by omega) rfl ?_ | refine j_remN (by omega) rfl ?_ | refine j_addI (by omega) (by omega) rfl ?_ | refine j_subI (by omega) (by omega) rfl ?_ | refine j_op rfl ?_ | refine j_pickF rfl ?_ | refine j_pickT rfl ?_ | refine j_region ?_ | refine j_nil ?_ | refine j_then ?_ | refine j_mono (by assumption) ?_ | (refine j_seq fun K hK => ?_) | refine j_gdo rfl ?_ | refine j_gskip_t rfl ?_ | refine j_gskip_f rfl ?_ | refine j_gskip_u rfl ?_ | refine j_gspec rfl ?_ | refine j_block ?_ | refine j_ret ?_ | refine j_then_ret ?_ | refine j_in_ret ?_ | refine j_in_normal ?_ | refine j_exit ?_ | refine j_then_exit ?_ | refine j_in_exit ?_ | refine j_in_past ?_ | refine j_skip ?_ | refine j_cond_t ?_ | refine j_cond_f ?_ | refine j_store rfl ?_ | refine j_still_nil ?_ | (refine j_buildSlice rfl rfl rfl rfl fun bx => ?_) | (refine j_alloc rfl fun bx => ?_) | (refine j_box rfl fun bx => ?_))
          repeat (first | refine j_addN (by omega) rfl ?_ | refine j_subN (by omega) rfl ?_ | refine j_mulN (by omega) rfl ?_ | refine j_remN (by omega) rfl ?_ | refine j_addI (by omega) (by omega) rfl ?_ | refine j_subI (by omega) (by omega) rfl ?_ | refine j_op rfl ?_ | refine j_pickF rfl ?_ | refine j_pickT rfl ?_ | refine j_region ?_ | refine j_nil ?_ | refine j_then ?_ | refine j_mono (by assumption) ?_ | (refine j_seq fun K hK => ?_) | refine j_gdo rfl ?_ | refine j_gskip_t rfl ?_ | refine j_gskip_f rfl ?_ | refine j_gskip_u rfl ?_ | refine j_gspec rfl ?_ | refine j_block ?_ | refine j_ret ?_ | refine j_then_ret ?_ | refine j_in_ret ?_ | refine j_in_normal ?_ | refine j_exit ?_ | refine j_then_exit ?_ | refine j_in_exit ?_ | refine j_in_past ?_ | refine j_skip ?_ | refine j_cond_t ?_ | refine j_cond_f ?_ | refine j_store rfl ?_ | refine j_still_nil ?_ | (refine j_buildSlice rfl rfl rfl rfl fun bx => ?_) | (refine j_alloc rfl fun bx => ?_) | (refine j_box rfl fun bx => ?_))
          exact j_back (slots.length - (k + 1)) _ _ ⟨k + 1, mput (ms.map slf) was y.data.toList, by omega, rfl, hstep, rfl, rfl⟩ (by omega) (by (first | exact sub_nil | (repeat' (first | exact sub_nil | refine sub_cons inferInstance rfl ?_)))) (LE.trans (LE.sub (by (repeat' (first | exact Pick.here | apply Pick.there | apply Picks.cons | exact Picks.nil)))) (hput A' c'))
    · simp only [Bool.or_eq_true, Bool.and_eq_true, Bool.or_eq_false_iff, Bool.and_eq_false_iff, Bool.not_eq_true', Bool.not_eq_false', decide_eq_true_eq, decide_eq_false_iff_not, ne_eq, Decidable.not_not] at h
      have hke : k = (slots.zip cs).length := by omega
      rw [hke, List.take_length] at hfold
      cases hfold.symm.trans hr
      repeat (first | refine j_addN (by omega) rfl ?_ | refine j_subN (by omega) rfl ?_ | refine j_mulN (by omega) rfl ?_ | refine j_remN (by omega) rfl ?_ | refine j_addI (by omega) (by omega) rfl ?_ | refine j_subI (by omega) (by omega) rfl ?_ | refine j_op rfl ?_ | refine j_pickF rfl ?_ | refine j_pickT rfl ?_ | refine j_region ?_ | refine j_nil ?_ | refine j_then ?_ | refine j_mono (by assumption) ?_ | (refine j_seq fun K hK => ?_) | refine j_gdo rfl ?_ | refine j_gskip_t rfl ?_ | refine j_gskip_f rfl ?_ | refine j_gskip_u rfl ?_ | refine j_gspec rfl ?_ | refine j_block ?_ | refine j_ret ?_ | refine j_then_ret ?_ | refine j_in_ret ?_ | refine j_in_normal ?_ | refine j_exit ?_ | refine j_then_exit ?_ | refine j_in_exit ?_ | refine j_in_past ?_ | refine j_skip ?_ | refine j_cond_t ?_ | refine j_cond_f ?_ | refine j_store rfl ?_ | refine j_still_nil ?_ | (refine j_buildSlice rfl rfl rfl rfl fun bx => ?_) | (refine j_alloc rfl fun bx => ?_) | (refine j_box rfl fun bx => ?_))
      (first | refine j_done (.inl rfl) ?_ | refine j_done (.inr rfl) ?_ | refine j_doneM (.inl rfl) ?_ | refine j_doneM (.inr rfl) ?_)
      exact ⟨_, ⟨b, rfl, rfl⟩, (LE.sub (by (repeat' (first | exact Pick.here | apply Pick.there | apply Picks.cons | exact Picks.nil))))⟩
  · rw [if_neg hne] at hr
    have d1 : Dec ((slots.length : Int) ≠ cs.length) true := dec_t (by omega)
    cases hr
    repeat (first | refine j_addN (by omega) rfl ?_ | refine j_subN (by omega) rfl ?_ | refine j_mulN (by omega) rfl ?_ | refine j_remN (by omega) rfl ?_ | refine j_addI (by omega) (by omega) rfl ?_ | refine j_subI (by omega) (by omega) rfl ?_ | refine j_op rfl ?_ | refine j_pickF rfl ?_ | refine j_pickT rfl ?_ | refine j_region ?_ | refine j_nil ?_ | refine j_then ?_ | refine j_mono (by assumption) ?_ | (refine j_seq fun K hK => ?_) | refine j_gdo rfl ?_ | refine j_gskip_t rfl ?_ | refine j_gskip_f rfl ?_ | refine j_gskip_u rfl ?_ | refine j_gspec rfl ?_ | refine j_block ?_ | refine j_ret ?_ | refine j_then_ret ?_ | refine j_in_ret ?_ | refine j_in_normal ?_ | refine j_exit ?_ | refine j_then_exit ?_ | refine j_in_exit ?_ | refine j_in_past ?_ | refine j_skip ?_ | refine j_cond_t ?_ | refine j_cond_f ?_ | refine j_store rfl ?_ | refine j_still_nil ?_ | (refine j_buildSlice rfl rfl rfl rfl fun bx => ?_) | (refine j_alloc rfl fun bx => ?_) | (refine j_box rfl fun bx => ?_))
    (first | refine j_done (.inl rfl) ?_ | refine j_done (.inr rfl) ?_ | refine j_doneM (.inl rfl) ?_ | refine j_doneM (.inr rfl) ?_)
    exact ⟨_, ⟨rfl, rfl⟩, LE.nil⟩
end Go.Proofs.YtcoohckdnefacaaDoor.S
