/- exec: walks of the rules -/
import Derived.Test.YtcoohckdnefacaaDoorEA
namespace Go.Proofs.YtcoohckdnefacaaDoor.S
open Go.RowKit
set_option linter.unusedVariables false
set_option linter.unusedSimpArgs false
set_option maxRecDepth 100000
set_option maxHeartbeats 4000000
set_option synthInstance.maxHeartbeats 400000
set_option synthInstance.maxSize 4000
attribute [local irreducible] wpList Code.wp Exit.then Exit.inBlock stillR bodyPost hR J Back Mid
abbrev slf (p : Int × Sl UInt8) : Int × List UInt8 := (p.1, p.2.xs)
theorem mget_slf {ms : List (Int × Sl UInt8)} {k : Int} : mget (ms.map slf) k = (mget ms k).map (·.xs) := by
  induction ms with
  | nil => rfl
  | cons p ms ih =>
    obtain ⟨q, x⟩ := p
    show (if q = k then some x.xs else mget (ms.map slf) k) = Option.map _ (if q = k then some x else mget ms k)
    split
    · rfl
    · exact ih
theorem mput_slf {ms : List (Int × Sl UInt8)} {k : Int} {s : Sl UInt8} : (mput ms k s).map slf = mput (ms.map slf) k s.xs := by
  induction ms with
  | nil => rfl
  | cons p ms ih =>
    obtain ⟨q, x⟩ := p
    show List.map slf (if q = k then (k, s) :: ms else (q, x) :: mput ms k s) = (if q = k then (k, s.xs) :: ms.map slf else (q, x.xs) :: mput (ms.map slf) k s.xs)
    split
    · rfl
    · rw [← ih]; rfl
theorem mdel_slf {ms : List (Int × Sl UInt8)} {k : Int} : (mdel ms k).map slf = mdel (ms.map slf) k := by
  induction ms with
  | nil => rfl
  | cons p ms ih =>
    obtain ⟨q, x⟩ := p
    show List.map slf (if q = k then ms else (q, x) :: mdel ms k) = (if q = k then ms.map slf else (q, x.xs) :: mdel (ms.map slf) k)
    split
    · rfl
    · rw [← ih]; rfl
theorem mget_perm {β : Type} {m : List (Int × β)} {k : Int} {s : β} (h : mget m k = some s) : m.Perm ((k, s) :: mdel m k) := by
  induction m with
  | nil => cases h
  | cons p m ih =>
    obtain ⟨q, x⟩ := p
    unfold mget at h
    unfold mdel
    split at h
    · rename_i hq
      cases h
      rw [if_pos hq, hq]
    · rename_i hq
      rw [if_neg hq]
      exact ((ih h).cons _).trans (.swap _ _ _)
theorem mput_perm {β : Type} {m : List (Int × β)} {k : Int} {s : β} : ((k, s) :: mdel m k).Perm (mput m k s) := by
  induction m with
  | nil => exact .refl _
  | cons p m ih =>
    obtain ⟨q, x⟩ := p
    unfold mput mdel
    split
    · exact .refl _
    · exact (List.Perm.swap _ _ _).trans (ih.cons _)
section
variable {L : List Hp} {ms : List (Int × Sl UInt8)} {k : Int} {s : Sl UInt8} {A : Option Addr} {c : Nat} {xs : List UInt8}
theorem LE.rowGet (h : mget ms k = some s) : LE (allR rowR ms :: L) (own encU s.A s.c s.xs :: allR rowR (mdel ms k) :: L) := LE.allOut (R := rowR) (mget_perm h)
theorem LE.rowPut : LE (own encU A c xs :: allR rowR (mdel ms k) :: L) (allR rowR (mput ms k ⟨A, c, xs⟩) :: L) := LE.allIn (R := rowR) (x := (k, ⟨A, c, xs⟩)) mput_perm
theorem LE.rowDel : LE (allR rowR ms :: L) (allR rowR (mdel ms k) :: L) := by
  cases h : mget ms k with
  | none => rw [mdel_none h]; exact LE.refl _
  | some s => exact (LE.rowGet h).trans LE.drop
theorem mem_put {p : Int × Sl UInt8} (h : p ∈ mput ms k s) : p = (k, s) ∨ p ∈ ms := by
  induction ms with
  | nil => simp [mput] at h; exact .inl h
  | cons q ms ih =>
    obtain ⟨q, x⟩ := q
    unfold mput at h
    split at h
    · rcases List.mem_cons.1 h with h | h
      · exact .inl h
      · exact .inr (List.mem_cons_of_mem _ h)
    · rcases List.mem_cons.1 h with h | h
      · exact .inr (by rw [h]; exact List.mem_cons_self)
      · rcases ih h with h | h
        · exact .inl h
        · exact .inr (List.mem_cons_of_mem _ h)
theorem mem_del {p : Int × Sl UInt8} (h : p ∈ mdel ms k) : p ∈ ms := by
  induction ms with
  | nil => cases h
  | cons q ms ih =>
    obtain ⟨q, x⟩ := q
    unfold mdel at h
    split at h
    · exact List.mem_cons_of_mem _ h
    · rcases List.mem_cons.1 h with h | h
      · rw [h]; exact List.mem_cons_self
      · exact List.mem_cons_of_mem _ (ih h)
end
def effV (e : Eff) : Value := .agg [.int .i64 e.kind, .int .i64 e.file, .int .i64 e.gone, .int .i64 e.at_, .int .i64 e.n, .string e.data, .int .i64 e.size].toArray
def ptr (b o : Nat) : Value := .pointer (some ⟨b, o, none⟩)
/-- What a rule comes to. -/
def StepQ (b : Nat) (r : Option (Live × ByteArray)) (v : Value) (L : List Hp) : Prop := match r with
  | none => v = .tuple #[.string bE, .bool false] ∧ L = []
  | some (l, d) => v = .tuple #[.string d, .bool true] ∧ L = [deskR b l]
theorem made_spec (b : Nat) (l : Live) (e : Eff) : Spec Tryd.prog 37 [ptr b 0, effV e] [deskR b l] (fun _ => True) (StepQ b (madeS l e)) := by
  generalize hr : madeS l e = res
  unfold ptr effV
  refine spec_of Tryd.func37 rfl Tryd.ntmps37 fun F hF => ?_
  refine j_exs (deskR_eq b l) (by (first | exact Pick.here | exact Pick.there Pick.here | exact Pick.there (Pick.there Pick.here) | exact Pick.there (Pick.there (Pick.there Pick.here)) | exact Pick.there (Pick.there (Pick.there (Pick.there Pick.here))) | exact Pick.there (Pick.there (Pick.there (Pick.there (Pick.there Pick.here)))) | exact Pick.there (Pick.there (Pick.there (Pick.there (Pick.there (Pick.there Pick.here))))))) ?_; rintro _ ⟨r, ms, rfl, hnd, hln, rfl⟩; simp only [List.cons_append, List.nil_append]
  unfold madeS at hr
  rw [mget_slf] at hr
  cases hg : mget ms e.file with
  | some s =>
    have hm : MG ms e.file (some s) := ⟨hg⟩
    rw [hg] at hr
    cases (if_pos (.inl rfl)).symm.trans hr
    repeat (first | refine j_addN (by omega) rfl ?_ | refine j_subN (by omega) rfl ?_ | refine j_mulN (by omega) rfl ?_ | refine j_remN (by omega) rfl ?_ | refine j_addI (by omega) (by omega) rfl ?_ | refine j_subI (by omega) (by omega) rfl ?_ | refine j_op rfl ?_ | refine j_pickF rfl ?_ | refine j_pickT rfl ?_ | refine j_region ?_ | refine j_nil ?_ | refine j_then ?_ | refine j_mono (by assumption) ?_ | (refine j_seq fun K hK => ?_) | refine j_gdo rfl ?_ | refine j_gskip_t rfl ?_ | refine j_gskip_f rfl ?_ | refine j_gskip_u rfl ?_ | refine j_gspec rfl ?_ | refine j_block ?_ | refine j_ret ?_ | refine j_then_ret ?_ | refine j_in_ret ?_ | refine j_in_normal ?_ | refine j_exit ?_ | refine j_then_exit ?_ | refine j_in_exit ?_ | refine j_in_past ?_ | refine j_skip ?_ | refine j_cond_t ?_ | refine j_cond_f ?_ | refine j_store rfl ?_ | refine j_still_nil ?_ | (refine j_buildSlice rfl rfl rfl rfl fun bx => ?_) | (refine j_alloc rfl fun bx => ?_) | (refine j_box rfl fun bx => ?_))
    refine j_region_still mixed (by kernel_rfl) ?_
    repeat (first | refine j_addN (by omega) rfl ?_ | refine j_subN (by omega) rfl ?_ | refine j_mulN (by omega) rfl ?_ | refine j_remN (by omega) rfl ?_ | refine j_addI (by omega) (by omega) rfl ?_ | refine j_subI (by omega) (by omega) rfl ?_ | refine j_op rfl ?_ | refine j_pickF rfl ?_ | refine j_pickT rfl ?_ | refine j_region ?_ | refine j_nil ?_ | refine j_then ?_ | refine j_mono (by assumption) ?_ | (refine j_seq fun K hK => ?_) | refine j_gdo rfl ?_ | refine j_gskip_t rfl ?_ | refine j_gskip_f rfl ?_ | refine j_gskip_u rfl ?_ | refine j_gspec rfl ?_ | refine j_block ?_ | refine j_ret ?_ | refine j_then_ret ?_ | refine j_in_ret ?_ | refine j_in_normal ?_ | refine j_exit ?_ | refine j_then_exit ?_ | refine j_in_exit ?_ | refine j_in_past ?_ | refine j_skip ?_ | refine j_cond_t ?_ | refine j_cond_f ?_ | refine j_store rfl ?_ | refine j_still_nil ?_ | (refine j_buildSlice rfl rfl rfl rfl fun bx => ?_) | (refine j_alloc rfl fun bx => ?_) | (refine j_box rfl fun bx => ?_))
    (first | refine j_done (.inl rfl) ?_ | refine j_done (.inr rfl) ?_ | refine j_doneM (.inl rfl) ?_ | refine j_doneM (.inr rfl) ?_)
    exact ⟨_, ⟨rfl, rfl⟩, LE.nil⟩
  | none =>
    have hm : MG ms e.file none := ⟨hg⟩
    rw [hg] at hr
    by_cases hneg : e.file < 0
    · cases (if_pos (.inr hneg)).symm.trans hr
      have d1 : Dec (e.file < 0) true := dec_t hneg
      repeat (first | refine j_addN (by omega) rfl ?_ | refine j_subN (by omega) rfl ?_ | refine j_mulN (by omega) rfl ?_ | refine j_remN (by omega) rfl ?_ | refine j_addI (by omega) (by omega) rfl ?_ | refine j_subI (by omega) (by omega) rfl ?_ | refine j_op rfl ?_ | refine j_pickF rfl ?_ | refine j_pickT rfl ?_ | refine j_region ?_ | refine j_nil ?_ | refine j_then ?_ | refine j_mono (by assumption) ?_ | (refine j_seq fun K hK => ?_) | refine j_gdo rfl ?_ | refine j_gskip_t rfl ?_ | refine j_gskip_f rfl ?_ | refine j_gskip_u rfl ?_ | refine j_gspec rfl ?_ | refine j_block ?_ | refine j_ret ?_ | refine j_then_ret ?_ | refine j_in_ret ?_ | refine j_in_normal ?_ | refine j_exit ?_ | refine j_then_exit ?_ | refine j_in_exit ?_ | refine j_in_past ?_ | refine j_skip ?_ | refine j_cond_t ?_ | refine j_cond_f ?_ | refine j_store rfl ?_ | refine j_still_nil ?_ | (refine j_buildSlice rfl rfl rfl rfl fun bx => ?_) | (refine j_alloc rfl fun bx => ?_) | (refine j_box rfl fun bx => ?_))
      refine j_region_still mixed (by kernel_rfl) ?_
      repeat (first | refine j_addN (by omega) rfl ?_ | refine j_subN (by omega) rfl ?_ | refine j_mulN (by omega) rfl ?_ | refine j_remN (by omega) rfl ?_ | refine j_addI (by omega) (by omega) rfl ?_ | refine j_subI (by omega) (by omega) rfl ?_ | refine j_op rfl ?_ | refine j_pickF rfl ?_ | refine j_pickT rfl ?_ | refine j_region ?_ | refine j_nil ?_ | refine j_then ?_ | refine j_mono (by assumption) ?_ | (refine j_seq fun K hK => ?_) | refine j_gdo rfl ?_ | refine j_gskip_t rfl ?_ | refine j_gskip_f rfl ?_ | refine j_gskip_u rfl ?_ | refine j_gspec rfl ?_ | refine j_block ?_ | refine j_ret ?_ | refine j_then_ret ?_ | refine j_in_ret ?_ | refine j_in_normal ?_ | refine j_exit ?_ | refine j_then_exit ?_ | refine j_in_exit ?_ | refine j_in_past ?_ | refine j_skip ?_ | refine j_cond_t ?_ | refine j_cond_f ?_ | refine j_store rfl ?_ | refine j_still_nil ?_ | (refine j_buildSlice rfl rfl rfl rfl fun bx => ?_) | (refine j_alloc rfl fun bx => ?_) | (refine j_box rfl fun bx => ?_))
      (first | refine j_done (.inl rfl) ?_ | refine j_done (.inr rfl) ?_ | refine j_doneM (.inl rfl) ?_ | refine j_doneM (.inr rfl) ?_)
      exact ⟨_, ⟨rfl, rfl⟩, LE.nil⟩
    · cases (if_neg (show ¬ ((Option.map (fun (x : Sl UInt8) => x.xs) (none : Option (Sl UInt8))).isSome = true ∨ e.file < 0) from fun hh => by rcases hh with hh | hh; cases hh; exact hneg hh)).symm.trans hr
      have d1 : Dec (e.file < 0) false := dec_f hneg
      repeat (first | refine j_addN (by omega) rfl ?_ | refine j_subN (by omega) rfl ?_ | refine j_mulN (by omega) rfl ?_ | refine j_remN (by omega) rfl ?_ | refine j_addI (by omega) (by omega) rfl ?_ | refine j_subI (by omega) (by omega) rfl ?_ | refine j_op rfl ?_ | refine j_pickF rfl ?_ | refine j_pickT rfl ?_ | refine j_region ?_ | refine j_nil ?_ | refine j_then ?_ | refine j_mono (by assumption) ?_ | (refine j_seq fun K hK => ?_) | refine j_gdo rfl ?_ | refine j_gskip_t rfl ?_ | refine j_gskip_f rfl ?_ | refine j_gskip_u rfl ?_ | refine j_gspec rfl ?_ | refine j_block ?_ | refine j_ret ?_ | refine j_then_ret ?_ | refine j_in_ret ?_ | refine j_in_normal ?_ | refine j_exit ?_ | refine j_then_exit ?_ | refine j_in_exit ?_ | refine j_in_past ?_ | refine j_skip ?_ | refine j_cond_t ?_ | refine j_cond_f ?_ | refine j_store rfl ?_ | refine j_still_nil ?_ | (refine j_buildSlice rfl rfl rfl rfl fun bx => ?_) | (refine j_alloc rfl fun bx => ?_) | (refine j_box rfl fun bx => ?_))
      refine j_region_still mixed (by kernel_rfl) ?_
      repeat (first | refine j_addN (by omega) rfl ?_ | refine j_subN (by omega) rfl ?_ | refine j_mulN (by omega) rfl ?_ | refine j_remN (by omega) rfl ?_ | refine j_addI (by omega) (by omega) rfl ?_ | refine j_subI (by omega) (by omega) rfl ?_ | refine j_op rfl ?_ | refine j_pickF rfl ?_ | refine j_pickT rfl ?_ | refine j_region ?_ | refine j_nil ?_ | refine j_then ?_ | refine j_mono (by assumption) ?_ | (refine j_seq fun K hK => ?_) | refine j_gdo rfl ?_ | refine j_gskip_t rfl ?_ | refine j_gskip_f rfl ?_ | refine j_gskip_u rfl ?_ | refine j_gspec rfl ?_ | refine j_block ?_ | refine j_ret ?_ | refine j_then_ret ?_ | refine j_in_ret ?_ | refine j_in_normal ?_ | refine j_exit ?_ | refine j_then_exit ?_ | refine j_in_exit ?_ | refine j_in_past ?_ | refine j_skip ?_ | refine j_cond_t ?_ | refine j_cond_f ?_ | refine j_store rfl ?_ | refine j_still_nil ?_ | (refine j_buildSlice rfl rfl rfl rfl fun bx => ?_) | (refine j_alloc rfl fun bx => ?_) | (refine j_box rfl fun bx => ?_))
      refine j_region_tail 6 mixed (by kernel_rfl) ?_
      repeat (first | refine j_addN (by omega) rfl ?_ | refine j_subN (by omega) rfl ?_ | refine j_mulN (by omega) rfl ?_ | refine j_remN (by omega) rfl ?_ | refine j_addI (by omega) (by omega) rfl ?_ | refine j_subI (by omega) (by omega) rfl ?_ | refine j_op rfl ?_ | refine j_pickF rfl ?_ | refine j_pickT rfl ?_ | refine j_region ?_ | refine j_nil ?_ | refine j_then ?_ | refine j_mono (by assumption) ?_ | (refine j_seq fun K hK => ?_) | refine j_gdo rfl ?_ | refine j_gskip_t rfl ?_ | refine j_gskip_f rfl ?_ | refine j_gskip_u rfl ?_ | refine j_gspec rfl ?_ | refine j_block ?_ | refine j_ret ?_ | refine j_then_ret ?_ | refine j_in_ret ?_ | refine j_in_normal ?_ | refine j_exit ?_ | refine j_then_exit ?_ | refine j_in_exit ?_ | refine j_in_past ?_ | refine j_skip ?_ | refine j_cond_t ?_ | refine j_cond_f ?_ | refine j_store rfl ?_ | refine j_still_nil ?_ | (refine j_buildSlice rfl rfl rfl rfl fun bx => ?_) | (refine j_alloc rfl fun bx => ?_) | (refine j_box rfl fun bx => ?_))
      refine j_mapset (⟨none, 0, []⟩ : Sl UInt8) rfl ?_
      repeat (first | refine j_addN (by omega) rfl ?_ | refine j_subN (by omega) rfl ?_ | refine j_mulN (by omega) rfl ?_ | refine j_remN (by omega) rfl ?_ | refine j_addI (by omega) (by omega) rfl ?_ | refine j_subI (by omega) (by omega) rfl ?_ | refine j_op rfl ?_ | refine j_pickF rfl ?_ | refine j_pickT rfl ?_ | refine j_region ?_ | refine j_nil ?_ | refine j_then ?_ | refine j_mono (by assumption) ?_ | (refine j_seq fun K hK => ?_) | refine j_gdo rfl ?_ | refine j_gskip_t rfl ?_ | refine j_gskip_f rfl ?_ | refine j_gskip_u rfl ?_ | refine j_gspec rfl ?_ | refine j_block ?_ | refine j_ret ?_ | refine j_then_ret ?_ | refine j_in_ret ?_ | refine j_in_normal ?_ | refine j_exit ?_ | refine j_then_exit ?_ | refine j_in_exit ?_ | refine j_in_past ?_ | refine j_skip ?_ | refine j_cond_t ?_ | refine j_cond_f ?_ | refine j_store rfl ?_ | refine j_still_nil ?_ | (refine j_buildSlice rfl rfl rfl rfl fun bx => ?_) | (refine j_alloc rfl fun bx => ?_) | (refine j_box rfl fun bx => ?_))
      (first | refine j_done (.inl rfl) ?_ | refine j_done (.inr rfl) ?_ | refine j_doneM (.inl rfl) ?_ | refine j_doneM (.inr rfl) ?_)
      refine ⟨_, ⟨rfl, rfl⟩, ?_⟩
      rw [show allR rowR ms = allR rowR (mdel ms e.file) by rw [mdel_none hg]]
      refine LE.trans (LE.picks (M := [allR rowR (mdel ms e.file), cells b 0 [.map (some r)], mapR (Value.int .i64) slV r (mput ms e.file ⟨none, 0, []⟩)]) (by (repeat' (first | exact Pick.here | apply Pick.there | apply Picks.cons | exact Picks.nil))) (LE.refl _)) ?_
      refine LE.trans (own_nil encU) ?_
      refine LE.trans LE.rowPut ?_
      exact LE.trans (LE.fold (deskR_eq b _) ⟨r, mput ms e.file ⟨none, 0, []⟩, mput_slf, mput_nodup hnd, fun p hp => by
        rcases mem_put hp with rfl | hp
        · exact Nat.zero_le _
        · exact hln p hp, rfl⟩ (by (repeat' (first | exact Pick.here | apply Pick.there | apply Picks.cons | exact Picks.nil)))) (LE.sub (by (repeat' (first | exact Pick.here | apply Pick.there | apply Picks.cons | exact Picks.nil))))
end Go.Proofs.YtcoohckdnefacaaDoor.S
