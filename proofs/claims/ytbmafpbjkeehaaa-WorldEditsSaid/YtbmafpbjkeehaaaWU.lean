/- world: edits: the store's parts, the law's lists -/
import Derived.Test.YtbmafpbjkeehaaaWR
namespace Go.Proofs.Ytbmafpbjkeehaaa.S
open Go.RowKit
set_option linter.unusedVariables false
set_option linter.unusedSimpArgs false
set_option maxRecDepth 100000
set_option maxHeartbeats 4000000
def putAt (σ : Wd) (n : Int) : Option Blb := if n < 0 then none else σ.puts[n.toNat]?
def blb0 : Blb := ⟨⟨#[]⟩, ⟨#[]⟩⟩
def havF (l : List Blb) (n x : ByteArray) (h : Bool) : List Blb := l.filter (fun y => decide (y.name ≠ n)) ++ (if h = true then [⟨n, x⟩] else [])
def putR : List CP → Int → Option CP
  | [], _ => none
  | c :: l, n => if c.kind = 2 then if n = 0 then some c else putR l (IntKind.i64.wrap (n - 1)) else putR l n
def swapW (σ : Wd) (a b : ByteArray) : Wd :=
  let σ1 := if (mget σ.objs b).isSome = true then setW σ a ((mget σ.objs b).getD ⟨#[]⟩) else dropW σ a
  if (mget σ.objs a).isSome = true then setW σ1 b ((mget σ.objs a).getD ⟨#[]⟩) else dropW σ1 b
set_option synthInstance.maxHeartbeats 400000
set_option synthInstance.maxSize 4000
attribute [local irreducible] wpList Code.wp Exit.then Exit.inBlock stillR bodyPost hR J Back Mid
theorem put_at_spec (b : Nat) (σ : Wd) (n : Int) (hp : σ.puts.length ≤ 5000000000000) : Spec Try.prog 54 [ptr b 0, .int .i64 n] [worldR b σ] (fun _ => True) (fun v L => v = .tuple #[.agg [.string ((putAt σ n).getD blb0).name, .string ((putAt σ n).getD blb0).blob].toArray, .bool (putAt σ n).isSome] ∧ L = [worldR b σ]) := by
  generalize hq : putAt σ n = q
  unfold putAt at hq
  unfold ptr
  refine spec_of Try.func54 rfl Try.ntmps54 fun F hF => ?_
  refine j_exs (worldR_eq b _) (by (first | exact Pick.here | exact Pick.there Pick.here | exact Pick.there (Pick.there Pick.here) | exact Pick.there (Pick.there (Pick.there Pick.here)) | exact Pick.there (Pick.there (Pick.there (Pick.there Pick.here))) | exact Pick.there (Pick.there (Pick.there (Pick.there (Pick.there Pick.here)))) | exact Pick.there (Pick.there (Pick.there (Pick.there (Pick.there (Pick.there Pick.here))))))) ?_; rintro _ ⟨ro, rp, Ta, Ap, Ac, Am, ct, cp, cc, cm, tr, pl, htr, hpl, hnd, hleft, rfl⟩; simp only [List.cons_append, List.nil_append]
  by_cases c1 : n < 0
  · have d1 : Dec (n < 0) true := dec_t c1
    rw [if_pos c1] at hq
    subst hq
    repeat (first | refine j_addN (by omega) rfl ?_ | refine j_subN (by omega) rfl ?_ | refine j_mulN (by omega) rfl ?_ | refine j_remN (by omega) rfl ?_ | refine j_addI (by omega) (by omega) rfl ?_ | refine j_subI (by omega) (by omega) rfl ?_ | refine j_op rfl ?_ | refine j_pickF rfl ?_ | refine j_pickT rfl ?_ | refine j_region ?_ | refine j_nil ?_ | refine j_then ?_ | refine j_mono (by assumption) ?_ | (refine j_seq fun K hK => ?_) | refine j_gdo rfl ?_ | refine j_gskip_t rfl ?_ | refine j_gskip_f rfl ?_ | refine j_gskip_u rfl ?_ | refine j_gspec rfl ?_ | refine j_block ?_ | refine j_ret ?_ | refine j_then_ret ?_ | refine j_in_ret ?_ | refine j_in_normal ?_ | refine j_exit ?_ | refine j_then_exit ?_ | refine j_in_exit ?_ | refine j_in_past ?_ | refine j_skip ?_ | refine j_cond_t ?_ | refine j_cond_f ?_ | refine j_store rfl ?_ | refine j_still_nil ?_ | (refine j_buildSlice rfl rfl rfl rfl fun bx => ?_) | (refine j_alloc rfl fun bx => ?_) | (refine j_box rfl fun bx => ?_))
    (first | refine j_done (.inl rfl) ?_ | refine j_done (.inr rfl) ?_ | refine j_doneM (.inl rfl) ?_ | refine j_doneM (.inr rfl) ?_)
    exact ⟨_, ⟨rfl, rfl⟩, (LE.foldW htr hpl hnd hleft (by (repeat' (first | exact Pick.here | apply Pick.there | apply Picks.cons | exact Picks.nil))))⟩
  · have d1 : Dec (n < 0) false := dec_f c1
    rw [if_neg c1] at hq
    by_cases c2 : (σ.puts.length : Int) ≤ n
    · have d2 : Dec ((σ.puts.length : Int) ≤ n) true := dec_t c2
      rw [List.getElem?_eq_none (by omega)] at hq
      subst hq
      repeat (first | refine j_addN (by omega) rfl ?_ | refine j_subN (by omega) rfl ?_ | refine j_mulN (by omega) rfl ?_ | refine j_remN (by omega) rfl ?_ | refine j_addI (by omega) (by omega) rfl ?_ | refine j_subI (by omega) (by omega) rfl ?_ | refine j_op rfl ?_ | refine j_pickF rfl ?_ | refine j_pickT rfl ?_ | refine j_region ?_ | refine j_nil ?_ | refine j_then ?_ | refine j_mono (by assumption) ?_ | (refine j_seq fun K hK => ?_) | refine j_gdo rfl ?_ | refine j_gskip_t rfl ?_ | refine j_gskip_f rfl ?_ | refine j_gskip_u rfl ?_ | refine j_gspec rfl ?_ | refine j_block ?_ | refine j_ret ?_ | refine j_then_ret ?_ | refine j_in_ret ?_ | refine j_in_normal ?_ | refine j_exit ?_ | refine j_then_exit ?_ | refine j_in_exit ?_ | refine j_in_past ?_ | refine j_skip ?_ | refine j_cond_t ?_ | refine j_cond_f ?_ | refine j_store rfl ?_ | refine j_still_nil ?_ | (refine j_buildSlice rfl rfl rfl rfl fun bx => ?_) | (refine j_alloc rfl fun bx => ?_) | (refine j_box rfl fun bx => ?_))
      (first | refine j_done (.inl rfl) ?_ | refine j_done (.inr rfl) ?_ | refine j_doneM (.inl rfl) ?_ | refine j_doneM (.inr rfl) ?_)
      exact ⟨_, ⟨rfl, rfl⟩, (LE.foldW htr hpl hnd hleft (by (repeat' (first | exact Pick.here | apply Pick.there | apply Picks.cons | exact Picks.nil))))⟩
    · have d2 : Dec ((σ.puts.length : Int) ≤ n) false := dec_f c2
      obtain ⟨k, rfl⟩ : ∃ k : Nat, n = k := ⟨n.toNat, by omega⟩
      rw [Int.toNat_natCast] at hq
      have hx := List.getElem?_eq_getElem (show k < σ.puts.length by omega)
      rw [hx] at hq
      subst hq
      generalize σ.puts[k] = x at hx
      have hat : At σ.puts k x := ⟨hx⟩
      have f1 : Ft (k < σ.puts.length) := ⟨by omega⟩
      repeat (first | refine j_addN (by omega) rfl ?_ | refine j_subN (by omega) rfl ?_ | refine j_mulN (by omega) rfl ?_ | refine j_remN (by omega) rfl ?_ | refine j_addI (by omega) (by omega) rfl ?_ | refine j_subI (by omega) (by omega) rfl ?_ | refine j_op rfl ?_ | refine j_pickF rfl ?_ | refine j_pickT rfl ?_ | refine j_region ?_ | refine j_nil ?_ | refine j_then ?_ | refine j_mono (by assumption) ?_ | (refine j_seq fun K hK => ?_) | refine j_gdo rfl ?_ | refine j_gskip_t rfl ?_ | refine j_gskip_f rfl ?_ | refine j_gskip_u rfl ?_ | refine j_gspec rfl ?_ | refine j_block ?_ | refine j_ret ?_ | refine j_then_ret ?_ | refine j_in_ret ?_ | refine j_in_normal ?_ | refine j_exit ?_ | refine j_then_exit ?_ | refine j_in_exit ?_ | refine j_in_past ?_ | refine j_skip ?_ | refine j_cond_t ?_ | refine j_cond_f ?_ | refine j_store rfl ?_ | refine j_still_nil ?_ | (refine j_buildSlice rfl rfl rfl rfl fun bx => ?_) | (refine j_alloc rfl fun bx => ?_) | (refine j_box rfl fun bx => ?_))
      (first | refine j_done (.inl rfl) ?_ | refine j_done (.inr rfl) ?_ | refine j_doneM (.inl rfl) ?_ | refine j_doneM (.inr rfl) ?_)
      exact ⟨_, ⟨rfl, rfl⟩, (LE.foldW htr hpl hnd hleft (by (repeat' (first | exact Pick.here | apply Pick.there | apply Picks.cons | exact Picks.nil))))⟩
theorem swap_spec (b : Nat) (σ : Wd) (m n : ByteArray) (hc : σ.chg.length ≤ 4000000000000) : Spec Try.prog 55 [ptr b 0, .string m, .string n] [worldR b σ] (fun _ => True) (fun v L => v = .tuple #[] ∧ L = [worldR b (swapW σ m n)]) := by
  generalize hq : swapW σ m n = q
  unfold swapW at hq
  have hcl : ∀ x, (setW σ m x).chg.length ≤ 4000000000001 := fun x => by unfold setW; simp; omega
  have hcd : (dropW σ m).chg.length ≤ 4000000000001 := by
    unfold dropW
    split
    · simp only [List.length_append, List.length_cons, List.length_nil]; omega
    · omega
  have s1 := fun x => set_spec b σ m x (by omega)
  have s2 := drop_spec b σ m (by omega)
  have s3 := fun x y => set_spec b (setW σ m x) n y (by have := hcl x; omega)
  have s4 := fun x => drop_spec b (setW σ m x) n (by have := hcl x; omega)
  have s5 := fun y => set_spec b (dropW σ m) n y (by omega)
  have s6 := drop_spec b (dropW σ m) n (by omega)
  unfold ptr at *
  refine spec_of Try.func55 rfl Try.ntmps55 fun F hF => ?_
  refine j_exs (worldR_eq b _) (by (first | exact Pick.here | exact Pick.there Pick.here | exact Pick.there (Pick.there Pick.here) | exact Pick.there (Pick.there (Pick.there Pick.here)) | exact Pick.there (Pick.there (Pick.there (Pick.there Pick.here))) | exact Pick.there (Pick.there (Pick.there (Pick.there (Pick.there Pick.here)))) | exact Pick.there (Pick.there (Pick.there (Pick.there (Pick.there (Pick.there Pick.here))))))) ?_; rintro _ ⟨ro, rp, Ta, Ap, Ac, Am, ct, cp, cc, cm, tr, pl, htr, hpl, hnd, hleft, rfl⟩; simp only [List.cons_append, List.nil_append]
  cases hga : mget σ.objs m with
  | some x =>
    have m1 : MG σ.objs m (some x) := ⟨hga⟩
    cases hgb : mget σ.objs n with
    | some y =>
      have m2 : MG σ.objs n (some y) := ⟨hgb⟩
      rw [hga, hgb] at hq
      simp only [Option.isSome_some, if_true, Option.getD_some] at hq
      subst hq
      repeat (first | refine j_addN (by omega) rfl ?_ | refine j_subN (by omega) rfl ?_ | refine j_mulN (by omega) rfl ?_ | refine j_remN (by omega) rfl ?_ | refine j_addI (by omega) (by omega) rfl ?_ | refine j_subI (by omega) (by omega) rfl ?_ | refine j_op rfl ?_ | refine j_pickF rfl ?_ | refine j_pickT rfl ?_ | refine j_region ?_ | refine j_nil ?_ | refine j_then ?_ | refine j_mono (by assumption) ?_ | (refine j_seq fun K hK => ?_) | refine j_gdo rfl ?_ | refine j_gskip_t rfl ?_ | refine j_gskip_f rfl ?_ | refine j_gskip_u rfl ?_ | refine j_gspec rfl ?_ | refine j_block ?_ | refine j_ret ?_ | refine j_then_ret ?_ | refine j_in_ret ?_ | refine j_in_normal ?_ | refine j_exit ?_ | refine j_then_exit ?_ | refine j_in_exit ?_ | refine j_in_past ?_ | refine j_skip ?_ | refine j_cond_t ?_ | refine j_cond_f ?_ | refine j_store rfl ?_ | refine j_still_nil ?_)
      refine j_le (LE.keepW σ htr hpl hnd hleft (by (repeat' (first | exact Pick.here | apply Pick.there | apply Picks.cons | exact Picks.nil)))) ?_
      refine j_call (s1 y) rfl (by (repeat' (first | exact Pick.here | apply Pick.there | apply Picks.cons | exact Picks.nil))) (fun _ _ => trivial) ?_
      rintro _ _ ⟨rfl, rfl⟩
      simp only [List.cons_append, List.nil_append]
      repeat (first | refine j_addN (by omega) rfl ?_ | refine j_subN (by omega) rfl ?_ | refine j_mulN (by omega) rfl ?_ | refine j_remN (by omega) rfl ?_ | refine j_addI (by omega) (by omega) rfl ?_ | refine j_subI (by omega) (by omega) rfl ?_ | refine j_op rfl ?_ | refine j_pickF rfl ?_ | refine j_pickT rfl ?_ | refine j_region ?_ | refine j_nil ?_ | refine j_then ?_ | refine j_mono (by assumption) ?_ | (refine j_seq fun K hK => ?_) | refine j_gdo rfl ?_ | refine j_gskip_t rfl ?_ | refine j_gskip_f rfl ?_ | refine j_gskip_u rfl ?_ | refine j_gspec rfl ?_ | refine j_block ?_ | refine j_ret ?_ | refine j_then_ret ?_ | refine j_in_ret ?_ | refine j_in_normal ?_ | refine j_exit ?_ | refine j_then_exit ?_ | refine j_in_exit ?_ | refine j_in_past ?_ | refine j_skip ?_ | refine j_cond_t ?_ | refine j_cond_f ?_ | refine j_store rfl ?_ | refine j_still_nil ?_)
      refine j_call (s3 y x) rfl (by (repeat' (first | exact Pick.here | apply Pick.there | apply Picks.cons | exact Picks.nil))) (fun _ _ => trivial) ?_
      rintro _ _ ⟨rfl, rfl⟩
      simp only [List.cons_append, List.nil_append]
      repeat (first | refine j_addN (by omega) rfl ?_ | refine j_subN (by omega) rfl ?_ | refine j_mulN (by omega) rfl ?_ | refine j_remN (by omega) rfl ?_ | refine j_addI (by omega) (by omega) rfl ?_ | refine j_subI (by omega) (by omega) rfl ?_ | refine j_op rfl ?_ | refine j_pickF rfl ?_ | refine j_pickT rfl ?_ | refine j_region ?_ | refine j_nil ?_ | refine j_then ?_ | refine j_mono (by assumption) ?_ | (refine j_seq fun K hK => ?_) | refine j_gdo rfl ?_ | refine j_gskip_t rfl ?_ | refine j_gskip_f rfl ?_ | refine j_gskip_u rfl ?_ | refine j_gspec rfl ?_ | refine j_block ?_ | refine j_ret ?_ | refine j_then_ret ?_ | refine j_in_ret ?_ | refine j_in_normal ?_ | refine j_exit ?_ | refine j_then_exit ?_ | refine j_in_exit ?_ | refine j_in_past ?_ | refine j_skip ?_ | refine j_cond_t ?_ | refine j_cond_f ?_ | refine j_store rfl ?_ | refine j_still_nil ?_)
      (first | refine j_done (.inl rfl) ?_ | refine j_done (.inr rfl) ?_ | refine j_doneM (.inl rfl) ?_ | refine j_doneM (.inr rfl) ?_)
      exact ⟨_, ⟨rfl, rfl⟩, (LE.sub (by (repeat' (first | exact Pick.here | apply Pick.there | apply Picks.cons | exact Picks.nil))))⟩
    | none =>
      have m2 : MG σ.objs n (none : Option ByteArray) := ⟨hgb⟩
      rw [hga, hgb] at hq
      simp only [Option.isSome_some, Option.isSome_none, Bool.false_eq_true, if_true, if_false, Option.getD_some] at hq
      subst hq
      repeat (first | refine j_addN (by omega) rfl ?_ | refine j_subN (by omega) rfl ?_ | refine j_mulN (by omega) rfl ?_ | refine j_remN (by omega) rfl ?_ | refine j_addI (by omega) (by omega) rfl ?_ | refine j_subI (by omega) (by omega) rfl ?_ | refine j_op rfl ?_ | refine j_pickF rfl ?_ | refine j_pickT rfl ?_ | refine j_region ?_ | refine j_nil ?_ | refine j_then ?_ | refine j_mono (by assumption) ?_ | (refine j_seq fun K hK => ?_) | refine j_gdo rfl ?_ | refine j_gskip_t rfl ?_ | refine j_gskip_f rfl ?_ | refine j_gskip_u rfl ?_ | refine j_gspec rfl ?_ | refine j_block ?_ | refine j_ret ?_ | refine j_then_ret ?_ | refine j_in_ret ?_ | refine j_in_normal ?_ | refine j_exit ?_ | refine j_then_exit ?_ | refine j_in_exit ?_ | refine j_in_past ?_ | refine j_skip ?_ | refine j_cond_t ?_ | refine j_cond_f ?_ | refine j_store rfl ?_ | refine j_still_nil ?_)
      refine j_le (LE.keepW σ htr hpl hnd hleft (by (repeat' (first | exact Pick.here | apply Pick.there | apply Picks.cons | exact Picks.nil)))) ?_
      refine j_call s2 rfl (by (repeat' (first | exact Pick.here | apply Pick.there | apply Picks.cons | exact Picks.nil))) (fun _ _ => trivial) ?_
      rintro _ _ ⟨rfl, rfl⟩
      simp only [List.cons_append, List.nil_append]
      repeat (first | refine j_addN (by omega) rfl ?_ | refine j_subN (by omega) rfl ?_ | refine j_mulN (by omega) rfl ?_ | refine j_remN (by omega) rfl ?_ | refine j_addI (by omega) (by omega) rfl ?_ | refine j_subI (by omega) (by omega) rfl ?_ | refine j_op rfl ?_ | refine j_pickF rfl ?_ | refine j_pickT rfl ?_ | refine j_region ?_ | refine j_nil ?_ | refine j_then ?_ | refine j_mono (by assumption) ?_ | (refine j_seq fun K hK => ?_) | refine j_gdo rfl ?_ | refine j_gskip_t rfl ?_ | refine j_gskip_f rfl ?_ | refine j_gskip_u rfl ?_ | refine j_gspec rfl ?_ | refine j_block ?_ | refine j_ret ?_ | refine j_then_ret ?_ | refine j_in_ret ?_ | refine j_in_normal ?_ | refine j_exit ?_ | refine j_then_exit ?_ | refine j_in_exit ?_ | refine j_in_past ?_ | refine j_skip ?_ | refine j_cond_t ?_ | refine j_cond_f ?_ | refine j_store rfl ?_ | refine j_still_nil ?_)
      refine j_call (s5 x) rfl (by (repeat' (first | exact Pick.here | apply Pick.there | apply Picks.cons | exact Picks.nil))) (fun _ _ => trivial) ?_
      rintro _ _ ⟨rfl, rfl⟩
      simp only [List.cons_append, List.nil_append]
      repeat (first | refine j_addN (by omega) rfl ?_ | refine j_subN (by omega) rfl ?_ | refine j_mulN (by omega) rfl ?_ | refine j_remN (by omega) rfl ?_ | refine j_addI (by omega) (by omega) rfl ?_ | refine j_subI (by omega) (by omega) rfl ?_ | refine j_op rfl ?_ | refine j_pickF rfl ?_ | refine j_pickT rfl ?_ | refine j_region ?_ | refine j_nil ?_ | refine j_then ?_ | refine j_mono (by assumption) ?_ | (refine j_seq fun K hK => ?_) | refine j_gdo rfl ?_ | refine j_gskip_t rfl ?_ | refine j_gskip_f rfl ?_ | refine j_gskip_u rfl ?_ | refine j_gspec rfl ?_ | refine j_block ?_ | refine j_ret ?_ | refine j_then_ret ?_ | refine j_in_ret ?_ | refine j_in_normal ?_ | refine j_exit ?_ | refine j_then_exit ?_ | refine j_in_exit ?_ | refine j_in_past ?_ | refine j_skip ?_ | refine j_cond_t ?_ | refine j_cond_f ?_ | refine j_store rfl ?_ | refine j_still_nil ?_)
      (first | refine j_done (.inl rfl) ?_ | refine j_done (.inr rfl) ?_ | refine j_doneM (.inl rfl) ?_ | refine j_doneM (.inr rfl) ?_)
      exact ⟨_, ⟨rfl, rfl⟩, (LE.sub (by (repeat' (first | exact Pick.here | apply Pick.there | apply Picks.cons | exact Picks.nil))))⟩
  | none =>
    have m1 : MG σ.objs m (none : Option ByteArray) := ⟨hga⟩
    cases hgb : mget σ.objs n with
    | some y =>
      have m2 : MG σ.objs n (some y) := ⟨hgb⟩
      rw [hga, hgb] at hq
      simp only [Option.isSome_some, Option.isSome_none, Bool.false_eq_true, if_true, if_false, Option.getD_some] at hq
      subst hq
      repeat (first | refine j_addN (by omega) rfl ?_ | refine j_subN (by omega) rfl ?_ | refine j_mulN (by omega) rfl ?_ | refine j_remN (by omega) rfl ?_ | refine j_addI (by omega) (by omega) rfl ?_ | refine j_subI (by omega) (by omega) rfl ?_ | refine j_op rfl ?_ | refine j_pickF rfl ?_ | refine j_pickT rfl ?_ | refine j_region ?_ | refine j_nil ?_ | refine j_then ?_ | refine j_mono (by assumption) ?_ | (refine j_seq fun K hK => ?_) | refine j_gdo rfl ?_ | refine j_gskip_t rfl ?_ | refine j_gskip_f rfl ?_ | refine j_gskip_u rfl ?_ | refine j_gspec rfl ?_ | refine j_block ?_ | refine j_ret ?_ | refine j_then_ret ?_ | refine j_in_ret ?_ | refine j_in_normal ?_ | refine j_exit ?_ | refine j_then_exit ?_ | refine j_in_exit ?_ | refine j_in_past ?_ | refine j_skip ?_ | refine j_cond_t ?_ | refine j_cond_f ?_ | refine j_store rfl ?_ | refine j_still_nil ?_)
      refine j_le (LE.keepW σ htr hpl hnd hleft (by (repeat' (first | exact Pick.here | apply Pick.there | apply Picks.cons | exact Picks.nil)))) ?_
      refine j_call (s1 y) rfl (by (repeat' (first | exact Pick.here | apply Pick.there | apply Picks.cons | exact Picks.nil))) (fun _ _ => trivial) ?_
      rintro _ _ ⟨rfl, rfl⟩
      simp only [List.cons_append, List.nil_append]
      repeat (first | refine j_addN (by omega) rfl ?_ | refine j_subN (by omega) rfl ?_ | refine j_mulN (by omega) rfl ?_ | refine j_remN (by omega) rfl ?_ | refine j_addI (by omega) (by omega) rfl ?_ | refine j_subI (by omega) (by omega) rfl ?_ | refine j_op rfl ?_ | refine j_pickF rfl ?_ | refine j_pickT rfl ?_ | refine j_region ?_ | refine j_nil ?_ | refine j_then ?_ | refine j_mono (by assumption) ?_ | (refine j_seq fun K hK => ?_) | refine j_gdo rfl ?_ | refine j_gskip_t rfl ?_ | refine j_gskip_f rfl ?_ | refine j_gskip_u rfl ?_ | refine j_gspec rfl ?_ | refine j_block ?_ | refine j_ret ?_ | refine j_then_ret ?_ | refine j_in_ret ?_ | refine j_in_normal ?_ | refine j_exit ?_ | refine j_then_exit ?_ | refine j_in_exit ?_ | refine j_in_past ?_ | refine j_skip ?_ | refine j_cond_t ?_ | refine j_cond_f ?_ | refine j_store rfl ?_ | refine j_still_nil ?_)
      refine j_call (s4 y) rfl (by (repeat' (first | exact Pick.here | apply Pick.there | apply Picks.cons | exact Picks.nil))) (fun _ _ => trivial) ?_
      rintro _ _ ⟨rfl, rfl⟩
      simp only [List.cons_append, List.nil_append]
      repeat (first | refine j_addN (by omega) rfl ?_ | refine j_subN (by omega) rfl ?_ | refine j_mulN (by omega) rfl ?_ | refine j_remN (by omega) rfl ?_ | refine j_addI (by omega) (by omega) rfl ?_ | refine j_subI (by omega) (by omega) rfl ?_ | refine j_op rfl ?_ | refine j_pickF rfl ?_ | refine j_pickT rfl ?_ | refine j_region ?_ | refine j_nil ?_ | refine j_then ?_ | refine j_mono (by assumption) ?_ | (refine j_seq fun K hK => ?_) | refine j_gdo rfl ?_ | refine j_gskip_t rfl ?_ | refine j_gskip_f rfl ?_ | refine j_gskip_u rfl ?_ | refine j_gspec rfl ?_ | refine j_block ?_ | refine j_ret ?_ | refine j_then_ret ?_ | refine j_in_ret ?_ | refine j_in_normal ?_ | refine j_exit ?_ | refine j_then_exit ?_ | refine j_in_exit ?_ | refine j_in_past ?_ | refine j_skip ?_ | refine j_cond_t ?_ | refine j_cond_f ?_ | refine j_store rfl ?_ | refine j_still_nil ?_)
      (first | refine j_done (.inl rfl) ?_ | refine j_done (.inr rfl) ?_ | refine j_doneM (.inl rfl) ?_ | refine j_doneM (.inr rfl) ?_)
      exact ⟨_, ⟨rfl, rfl⟩, (LE.sub (by (repeat' (first | exact Pick.here | apply Pick.there | apply Picks.cons | exact Picks.nil))))⟩
    | none =>
      have m2 : MG σ.objs n (none : Option ByteArray) := ⟨hgb⟩
      rw [hga, hgb] at hq
      simp only [Option.isSome_none, Bool.false_eq_true, if_false] at hq
      subst hq
      repeat (first | refine j_addN (by omega) rfl ?_ | refine j_subN (by omega) rfl ?_ | refine j_mulN (by omega) rfl ?_ | refine j_remN (by omega) rfl ?_ | refine j_addI (by omega) (by omega) rfl ?_ | refine j_subI (by omega) (by omega) rfl ?_ | refine j_op rfl ?_ | refine j_pickF rfl ?_ | refine j_pickT rfl ?_ | refine j_region ?_ | refine j_nil ?_ | refine j_then ?_ | refine j_mono (by assumption) ?_ | (refine j_seq fun K hK => ?_) | refine j_gdo rfl ?_ | refine j_gskip_t rfl ?_ | refine j_gskip_f rfl ?_ | refine j_gskip_u rfl ?_ | refine j_gspec rfl ?_ | refine j_block ?_ | refine j_ret ?_ | refine j_then_ret ?_ | refine j_in_ret ?_ | refine j_in_normal ?_ | refine j_exit ?_ | refine j_then_exit ?_ | refine j_in_exit ?_ | refine j_in_past ?_ | refine j_skip ?_ | refine j_cond_t ?_ | refine j_cond_f ?_ | refine j_store rfl ?_ | refine j_still_nil ?_)
      refine j_le (LE.keepW σ htr hpl hnd hleft (by (repeat' (first | exact Pick.here | apply Pick.there | apply Picks.cons | exact Picks.nil)))) ?_
      refine j_call s2 rfl (by (repeat' (first | exact Pick.here | apply Pick.there | apply Picks.cons | exact Picks.nil))) (fun _ _ => trivial) ?_
      rintro _ _ ⟨rfl, rfl⟩
      simp only [List.cons_append, List.nil_append]
      repeat (first | refine j_addN (by omega) rfl ?_ | refine j_subN (by omega) rfl ?_ | refine j_mulN (by omega) rfl ?_ | refine j_remN (by omega) rfl ?_ | refine j_addI (by omega) (by omega) rfl ?_ | refine j_subI (by omega) (by omega) rfl ?_ | refine j_op rfl ?_ | refine j_pickF rfl ?_ | refine j_pickT rfl ?_ | refine j_region ?_ | refine j_nil ?_ | refine j_then ?_ | refine j_mono (by assumption) ?_ | (refine j_seq fun K hK => ?_) | refine j_gdo rfl ?_ | refine j_gskip_t rfl ?_ | refine j_gskip_f rfl ?_ | refine j_gskip_u rfl ?_ | refine j_gspec rfl ?_ | refine j_block ?_ | refine j_ret ?_ | refine j_then_ret ?_ | refine j_in_ret ?_ | refine j_in_normal ?_ | refine j_exit ?_ | refine j_then_exit ?_ | refine j_in_exit ?_ | refine j_in_past ?_ | refine j_skip ?_ | refine j_cond_t ?_ | refine j_cond_f ?_ | refine j_store rfl ?_ | refine j_still_nil ?_)
      refine j_call s6 rfl (by (repeat' (first | exact Pick.here | apply Pick.there | apply Picks.cons | exact Picks.nil))) (fun _ _ => trivial) ?_
      rintro _ _ ⟨rfl, rfl⟩
      simp only [List.cons_append, List.nil_append]
      repeat (first | refine j_addN (by omega) rfl ?_ | refine j_subN (by omega) rfl ?_ | refine j_mulN (by omega) rfl ?_ | refine j_remN (by omega) rfl ?_ | refine j_addI (by omega) (by omega) rfl ?_ | refine j_subI (by omega) (by omega) rfl ?_ | refine j_op rfl ?_ | refine j_pickF rfl ?_ | refine j_pickT rfl ?_ | refine j_region ?_ | refine j_nil ?_ | refine j_then ?_ | refine j_mono (by assumption) ?_ | (refine j_seq fun K hK => ?_) | refine j_gdo rfl ?_ | refine j_gskip_t rfl ?_ | refine j_gskip_f rfl ?_ | refine j_gskip_u rfl ?_ | refine j_gspec rfl ?_ | refine j_block ?_ | refine j_ret ?_ | refine j_then_ret ?_ | refine j_in_ret ?_ | refine j_in_normal ?_ | refine j_exit ?_ | refine j_then_exit ?_ | refine j_in_exit ?_ | refine j_in_past ?_ | refine j_skip ?_ | refine j_cond_t ?_ | refine j_cond_f ?_ | refine j_store rfl ?_ | refine j_still_nil ?_)
      (first | refine j_done (.inl rfl) ?_ | refine j_done (.inr rfl) ?_ | refine j_doneM (.inl rfl) ?_ | refine j_doneM (.inr rfl) ?_)
      exact ⟨_, ⟨rfl, rfl⟩, (LE.sub (by (repeat' (first | exact Pick.here | apply Pick.there | apply Picks.cons | exact Picks.nil))))⟩
theorem having_spec (A : Option Addr) (c : Nat) (l : List Blb) (n x : ByteArray) (h : Bool) (hl : l.length ≤ 4000000000000) : Spec Try.prog 48 [.slice A l.length c, .string n, .string x, .bool h] [] (fun F => RO F encBlb A l) (fun v L => ∃ A' c', v = .slice A' (havF l n x h).length c' ∧ L = [own encBlb A' c' (havF l n x h)]) := by
  generalize hq : havF l n x h = q
  unfold havF at hq
  refine spec_of Try.func48 rfl Try.ntmps48 fun F hF => ?_
  have ro := hF
  repeat (first | refine j_addN (by omega) rfl ?_ | refine j_subN (by omega) rfl ?_ | refine j_mulN (by omega) rfl ?_ | refine j_remN (by omega) rfl ?_ | refine j_addI (by omega) (by omega) rfl ?_ | refine j_subI (by omega) (by omega) rfl ?_ | refine j_op rfl ?_ | refine j_pickF rfl ?_ | refine j_pickT rfl ?_ | refine j_region ?_ | refine j_nil ?_ | refine j_then ?_ | refine j_mono (by assumption) ?_ | (refine j_seq fun K hK => ?_) | refine j_gdo rfl ?_ | refine j_gskip_t rfl ?_ | refine j_gskip_f rfl ?_ | refine j_gskip_u rfl ?_ | refine j_gspec rfl ?_ | refine j_block ?_ | refine j_ret ?_ | refine j_then_ret ?_ | refine j_in_ret ?_ | refine j_in_normal ?_ | refine j_exit ?_ | refine j_then_exit ?_ | refine j_in_exit ?_ | refine j_in_past ?_ | refine j_skip ?_ | refine j_cond_t ?_ | refine j_cond_f ?_ | refine j_store rfl ?_ | refine j_still_nil ?_)
  refine j_le (own_nil encBlb) ?_
  refine j_loop (fun m e L => ∃ (j : Nat) (A2 : Option Addr) (c2 : Nat), j ≤ l.length ∧ m = l.length - j ∧ e = [(0, .slice A l.length c), (1, .string n), (2, .string x), (3, .bool h), (9, .slice A2 ((l.take j).filter fun y => decide (y.name ≠ n)).length c2), (10, .int .i64 (j : Int))] ∧ L = [own encBlb A2 c2 ((l.take j).filter fun y => decide (y.name ≠ n))]) l.length _ _ ⟨0, none, 0, by omega, rfl, rfl, rfl⟩ (by (first | exact sub_nil | (repeat' (first | exact sub_nil | refine sub_cons inferInstance rfl ?_)))) (LE.sub (by (repeat' (first | exact Pick.here | apply Pick.there | apply Picks.cons | exact Picks.nil)))) ?_
  rintro m e L ⟨j, A2, c2, hj, rfl, rfl, rfl⟩
  have hfl : ((l.take j).filter fun y => decide (y.name ≠ n)).length ≤ l.length := Nat.le_trans (List.length_filter_le _ _) (by simp; omega)
  repeat (first | refine j_addN (by omega) rfl ?_ | refine j_subN (by omega) rfl ?_ | refine j_mulN (by omega) rfl ?_ | refine j_remN (by omega) rfl ?_ | refine j_addI (by omega) (by omega) rfl ?_ | refine j_subI (by omega) (by omega) rfl ?_ | refine j_op rfl ?_ | refine j_pickF rfl ?_ | refine j_pickT rfl ?_ | refine j_region ?_ | refine j_nil ?_ | refine j_then ?_ | refine j_mono (by assumption) ?_ | (refine j_seq fun K hK => ?_) | refine j_gdo rfl ?_ | refine j_gskip_t rfl ?_ | refine j_gskip_f rfl ?_ | refine j_gskip_u rfl ?_ | refine j_gspec rfl ?_ | refine j_block ?_ | refine j_ret ?_ | refine j_then_ret ?_ | refine j_in_ret ?_ | refine j_in_normal ?_ | refine j_exit ?_ | refine j_then_exit ?_ | refine j_in_exit ?_ | refine j_in_past ?_ | refine j_skip ?_ | refine j_cond_t ?_ | refine j_cond_f ?_ | refine j_store rfl ?_ | refine j_still_nil ?_)
  refine j_cond (fun hc => ?_) (fun hc => ?_)
  · rw [decide_eq_true_eq] at hc
    have hy := List.getElem?_eq_getElem (show j < l.length by omega)
    generalize l[j] = y at hy
    have hat2 : At l j y := ⟨hy⟩
    have htk : l.take (j + 1) = l.take j ++ [y] := by rw [List.take_add_one, hy]; rfl
    by_cases c3 : y.name = n
    · have d3 : Dec (y.name ≠ n) false := dec_f (by simpa using c3)
      have hft : (l.take (j + 1)).filter (fun y => decide (y.name ≠ n)) = (l.take j).filter (fun y => decide (y.name ≠ n)) := by rw [htk, List.filter_append]; simp [c3]
      repeat (first | refine j_addN (by omega) rfl ?_ | refine j_subN (by omega) rfl ?_ | refine j_mulN (by omega) rfl ?_ | refine j_remN (by omega) rfl ?_ | refine j_addI (by omega) (by omega) rfl ?_ | refine j_subI (by omega) (by omega) rfl ?_ | refine j_op rfl ?_ | refine j_pickF rfl ?_ | refine j_pickT rfl ?_ | refine j_region ?_ | refine j_nil ?_ | refine j_then ?_ | refine j_mono (by assumption) ?_ | (refine j_seq fun K hK => ?_) | refine j_gdo rfl ?_ | refine j_gskip_t rfl ?_ | refine j_gskip_f rfl ?_ | refine j_gskip_u rfl ?_ | refine j_gspec rfl ?_ | refine j_block ?_ | refine j_ret ?_ | refine j_then_ret ?_ | refine j_in_ret ?_ | refine j_in_normal ?_ | refine j_exit ?_ | refine j_then_exit ?_ | refine j_in_exit ?_ | refine j_in_past ?_ | refine j_skip ?_ | refine j_cond_t ?_ | refine j_cond_f ?_ | refine j_store rfl ?_ | refine j_still_nil ?_)
      rw [← hft]
      exact j_back (l.length - (j + 1)) _ [own encBlb A2 c2 ((l.take (j + 1)).filter fun y => decide (y.name ≠ n))] ⟨j + 1, A2, c2, by omega, rfl, rfl, rfl⟩ (by omega) (by (first | exact sub_nil | (repeat' (first | exact sub_nil | refine sub_cons inferInstance rfl ?_)))) (LE.sub (by (repeat' (first | exact Pick.here | apply Pick.there | apply Picks.cons | exact Picks.nil))))
    · have d3 : Dec (y.name ≠ n) true := dec_t c3
      have hft : (l.take (j + 1)).filter (fun y => decide (y.name ≠ n)) = (l.take j).filter (fun y => decide (y.name ≠ n)) ++ [⟨y.name, y.blob⟩] := by rw [htk, List.filter_append]; simp [c3]
      repeat (first | refine j_addN (by omega) rfl ?_ | refine j_subN (by omega) rfl ?_ | refine j_mulN (by omega) rfl ?_ | refine j_remN (by omega) rfl ?_ | refine j_addI (by omega) (by omega) rfl ?_ | refine j_subI (by omega) (by omega) rfl ?_ | refine j_op rfl ?_ | refine j_pickF rfl ?_ | refine j_pickT rfl ?_ | refine j_region ?_ | refine j_nil ?_ | refine j_then ?_ | refine j_mono (by assumption) ?_ | (refine j_seq fun K hK => ?_) | refine j_gdo rfl ?_ | refine j_gskip_t rfl ?_ | refine j_gskip_f rfl ?_ | refine j_gskip_u rfl ?_ | refine j_gspec rfl ?_ | refine j_block ?_ | refine j_ret ?_ | refine j_then_ret ?_ | refine j_in_ret ?_ | refine j_in_normal ?_ | refine j_exit ?_ | refine j_then_exit ?_ | refine j_in_exit ?_ | refine j_in_past ?_ | refine j_skip ?_ | refine j_cond_t ?_ | refine j_cond_f ?_ | refine j_store rfl ?_ | refine j_still_nil ?_)
      refine j_buildSlice rfl rfl rfl rfl fun B3 => ?_
      repeat (first | refine j_addN (by omega) rfl ?_ | refine j_subN (by omega) rfl ?_ | refine j_mulN (by omega) rfl ?_ | refine j_remN (by omega) rfl ?_ | refine j_addI (by omega) (by omega) rfl ?_ | refine j_subI (by omega) (by omega) rfl ?_ | refine j_op rfl ?_ | refine j_pickF rfl ?_ | refine j_pickT rfl ?_ | refine j_region ?_ | refine j_nil ?_ | refine j_then ?_ | refine j_mono (by assumption) ?_ | (refine j_seq fun K hK => ?_) | refine j_gdo rfl ?_ | refine j_gskip_t rfl ?_ | refine j_gskip_f rfl ?_ | refine j_gskip_u rfl ?_ | refine j_gspec rfl ?_ | refine j_block ?_ | refine j_ret ?_ | refine j_then_ret ?_ | refine j_in_ret ?_ | refine j_in_normal ?_ | refine j_exit ?_ | refine j_then_exit ?_ | refine j_in_exit ?_ | refine j_in_past ?_ | refine j_skip ?_ | refine j_cond_t ?_ | refine j_cond_f ?_ | refine j_store rfl ?_ | refine j_still_nil ?_)
      refine j_append (ys := [(⟨y.name, y.blob⟩ : Blb)]) rfl rfl rfl (by simp only [List.length_cons, List.length_nil]; omega) ?_
      intro A3 c3'
      rw [← hft]
      repeat (first | refine j_addN (by omega) rfl ?_ | refine j_subN (by omega) rfl ?_ | refine j_mulN (by omega) rfl ?_ | refine j_remN (by omega) rfl ?_ | refine j_addI (by omega) (by omega) rfl ?_ | refine j_subI (by omega) (by omega) rfl ?_ | refine j_op rfl ?_ | refine j_pickF rfl ?_ | refine j_pickT rfl ?_ | refine j_region ?_ | refine j_nil ?_ | refine j_then ?_ | refine j_mono (by assumption) ?_ | (refine j_seq fun K hK => ?_) | refine j_gdo rfl ?_ | refine j_gskip_t rfl ?_ | refine j_gskip_f rfl ?_ | refine j_gskip_u rfl ?_ | refine j_gspec rfl ?_ | refine j_block ?_ | refine j_ret ?_ | refine j_then_ret ?_ | refine j_in_ret ?_ | refine j_in_normal ?_ | refine j_exit ?_ | refine j_then_exit ?_ | refine j_in_exit ?_ | refine j_in_past ?_ | refine j_skip ?_ | refine j_cond_t ?_ | refine j_cond_f ?_ | refine j_store rfl ?_ | refine j_still_nil ?_)
      exact j_back (l.length - (j + 1)) _ [own encBlb A3 c3' ((l.take (j + 1)).filter fun y => decide (y.name ≠ n))] ⟨j + 1, A3, c3', by omega, rfl, rfl, rfl⟩ (by omega) (by (first | exact sub_nil | (repeat' (first | exact sub_nil | refine sub_cons inferInstance rfl ?_)))) (LE.sub (by (repeat' (first | exact Pick.here | apply Pick.there | apply Picks.cons | exact Picks.nil))))
  · rw [decide_eq_false_iff_not] at hc
    have hj2 : j = l.length := by omega
    subst hj2
    rw [List.take_length] at hfl ⊢
    cases h with
    | true =>
      rw [if_pos rfl] at hq
      subst hq
      repeat (first | refine j_addN (by omega) rfl ?_ | refine j_subN (by omega) rfl ?_ | refine j_mulN (by omega) rfl ?_ | refine j_remN (by omega) rfl ?_ | refine j_addI (by omega) (by omega) rfl ?_ | refine j_subI (by omega) (by omega) rfl ?_ | refine j_op rfl ?_ | refine j_pickF rfl ?_ | refine j_pickT rfl ?_ | refine j_region ?_ | refine j_nil ?_ | refine j_then ?_ | refine j_mono (by assumption) ?_ | (refine j_seq fun K hK => ?_) | refine j_gdo rfl ?_ | refine j_gskip_t rfl ?_ | refine j_gskip_f rfl ?_ | refine j_gskip_u rfl ?_ | refine j_gspec rfl ?_ | refine j_block ?_ | refine j_ret ?_ | refine j_then_ret ?_ | refine j_in_ret ?_ | refine j_in_normal ?_ | refine j_exit ?_ | refine j_then_exit ?_ | refine j_in_exit ?_ | refine j_in_past ?_ | refine j_skip ?_ | refine j_cond_t ?_ | refine j_cond_f ?_ | refine j_store rfl ?_ | refine j_still_nil ?_)
      refine j_buildSlice rfl rfl rfl rfl fun B3 => ?_
      repeat (first | refine j_addN (by omega) rfl ?_ | refine j_subN (by omega) rfl ?_ | refine j_mulN (by omega) rfl ?_ | refine j_remN (by omega) rfl ?_ | refine j_addI (by omega) (by omega) rfl ?_ | refine j_subI (by omega) (by omega) rfl ?_ | refine j_op rfl ?_ | refine j_pickF rfl ?_ | refine j_pickT rfl ?_ | refine j_region ?_ | refine j_nil ?_ | refine j_then ?_ | refine j_mono (by assumption) ?_ | (refine j_seq fun K hK => ?_) | refine j_gdo rfl ?_ | refine j_gskip_t rfl ?_ | refine j_gskip_f rfl ?_ | refine j_gskip_u rfl ?_ | refine j_gspec rfl ?_ | refine j_block ?_ | refine j_ret ?_ | refine j_then_ret ?_ | refine j_in_ret ?_ | refine j_in_normal ?_ | refine j_exit ?_ | refine j_then_exit ?_ | refine j_in_exit ?_ | refine j_in_past ?_ | refine j_skip ?_ | refine j_cond_t ?_ | refine j_cond_f ?_ | refine j_store rfl ?_ | refine j_still_nil ?_)
      refine j_append (ys := [(⟨n, x⟩ : Blb)]) rfl rfl rfl (by simp only [List.length_cons, List.length_nil]; omega) ?_
      intro A3 c3'
      repeat (first | refine j_addN (by omega) rfl ?_ | refine j_subN (by omega) rfl ?_ | refine j_mulN (by omega) rfl ?_ | refine j_remN (by omega) rfl ?_ | refine j_addI (by omega) (by omega) rfl ?_ | refine j_subI (by omega) (by omega) rfl ?_ | refine j_op rfl ?_ | refine j_pickF rfl ?_ | refine j_pickT rfl ?_ | refine j_region ?_ | refine j_nil ?_ | refine j_then ?_ | refine j_mono (by assumption) ?_ | (refine j_seq fun K hK => ?_) | refine j_gdo rfl ?_ | refine j_gskip_t rfl ?_ | refine j_gskip_f rfl ?_ | refine j_gskip_u rfl ?_ | refine j_gspec rfl ?_ | refine j_block ?_ | refine j_ret ?_ | refine j_then_ret ?_ | refine j_in_ret ?_ | refine j_in_normal ?_ | refine j_exit ?_ | refine j_then_exit ?_ | refine j_in_exit ?_ | refine j_in_past ?_ | refine j_skip ?_ | refine j_cond_t ?_ | refine j_cond_f ?_ | refine j_store rfl ?_ | refine j_still_nil ?_)
      (first | refine j_done (.inl rfl) ?_ | refine j_done (.inr rfl) ?_ | refine j_doneM (.inl rfl) ?_ | refine j_doneM (.inr rfl) ?_)
      exact ⟨_, ⟨A3, c3', rfl, rfl⟩, (LE.sub (by (repeat' (first | exact Pick.here | apply Pick.there | apply Picks.cons | exact Picks.nil))))⟩
    | false =>
      rw [if_neg (by decide), List.append_nil] at hq
      subst hq
      repeat (first | refine j_addN (by omega) rfl ?_ | refine j_subN (by omega) rfl ?_ | refine j_mulN (by omega) rfl ?_ | refine j_remN (by omega) rfl ?_ | refine j_addI (by omega) (by omega) rfl ?_ | refine j_subI (by omega) (by omega) rfl ?_ | refine j_op rfl ?_ | refine j_pickF rfl ?_ | refine j_pickT rfl ?_ | refine j_region ?_ | refine j_nil ?_ | refine j_then ?_ | refine j_mono (by assumption) ?_ | (refine j_seq fun K hK => ?_) | refine j_gdo rfl ?_ | refine j_gskip_t rfl ?_ | refine j_gskip_f rfl ?_ | refine j_gskip_u rfl ?_ | refine j_gspec rfl ?_ | refine j_block ?_ | refine j_ret ?_ | refine j_then_ret ?_ | refine j_in_ret ?_ | refine j_in_normal ?_ | refine j_exit ?_ | refine j_then_exit ?_ | refine j_in_exit ?_ | refine j_in_past ?_ | refine j_skip ?_ | refine j_cond_t ?_ | refine j_cond_f ?_ | refine j_store rfl ?_ | refine j_still_nil ?_)
      (first | refine j_done (.inl rfl) ?_ | refine j_done (.inr rfl) ?_ | refine j_doneM (.inl rfl) ?_ | refine j_doneM (.inr rfl) ?_)
      exact ⟨_, ⟨A2, c2, rfl, rfl⟩, (LE.sub (by (repeat' (first | exact Pick.here | apply Pick.there | apply Picks.cons | exact Picks.nil))))⟩
theorem findR_cases (n : ByteArray) : ∀ (l : List Blb) (i : Nat), findR l n i = -1 ∨ ∃ (k : Nat) (y : Blb), findR l n i = ((i + k : Nat) : Int) ∧ l[k]? = some y ∧ y.name = n
  | [], _ => .inl rfl
  | x :: l, i => by
    unfold findR
    by_cases hx : x.name = n
    · exact .inr ⟨0, x, by rw [if_pos hx]; rfl, rfl, hx⟩
    · rw [if_neg hx]
      rcases findR_cases n l (i + 1) with h | ⟨k, y, h1, h2, h3⟩
      · exact .inl h
      · exact .inr ⟨k + 1, y, by rw [h1]; congr 1; omega, by simpa using h2, h3⟩
def blobF (l : List Blb) (n : ByteArray) : ByteArray × Bool := if findR l n 0 < 0 then (⟨#[]⟩, false) else (((l[(findR l n 0).toNat]?).getD blb0).blob, true)
theorem blobOf_spec (A : Option Addr) (c : Nat) (l : List Blb) (n : ByteArray) (hl : l.length ≤ 4000000000000) : Spec Try.prog 49 [.slice A l.length c, .string n] [] (fun F => RO F encBlb A l) (fun v L => v = .tuple #[.string (blobF l n).1, .bool (blobF l n).2] ∧ L = []) := by
  generalize hq : blobF l n = q
  unfold blobF at hq
  have sf := find_spec A c l n (by omega)
  refine spec_of Try.func49 rfl Try.ntmps49 fun F hF => ?_
  have ro := hF
  repeat (first | refine j_addN (by omega) rfl ?_ | refine j_subN (by omega) rfl ?_ | refine j_mulN (by omega) rfl ?_ | refine j_remN (by omega) rfl ?_ | refine j_addI (by omega) (by omega) rfl ?_ | refine j_subI (by omega) (by omega) rfl ?_ | refine j_op rfl ?_ | refine j_pickF rfl ?_ | refine j_pickT rfl ?_ | refine j_region ?_ | refine j_nil ?_ | refine j_then ?_ | refine j_mono (by assumption) ?_ | (refine j_seq fun K hK => ?_) | refine j_gdo rfl ?_ | refine j_gskip_t rfl ?_ | refine j_gskip_f rfl ?_ | refine j_gskip_u rfl ?_ | refine j_gspec rfl ?_ | refine j_block ?_ | refine j_ret ?_ | refine j_then_ret ?_ | refine j_in_ret ?_ | refine j_in_normal ?_ | refine j_exit ?_ | refine j_then_exit ?_ | refine j_in_exit ?_ | refine j_in_past ?_ | refine j_skip ?_ | refine j_cond_t ?_ | refine j_cond_f ?_ | refine j_store rfl ?_ | refine j_still_nil ?_)
  refine j_call sf rfl .nil (fun F' hF' => ro.ext hF') ?_
  rintro _ _ ⟨rfl, rfl⟩
  simp only [List.cons_append, List.nil_append]
  rcases findR_cases n l 0 with h | ⟨k, y, h1, h2, h3⟩
  · rw [h] at hq ⊢
    rw [if_pos (by decide)] at hq
    subst hq
    have d1 : Dec ((-1 : Int) < 0) true := dec_t (by decide)
    repeat (first | refine j_addN (by omega) rfl ?_ | refine j_subN (by omega) rfl ?_ | refine j_mulN (by omega) rfl ?_ | refine j_remN (by omega) rfl ?_ | refine j_addI (by omega) (by omega) rfl ?_ | refine j_subI (by omega) (by omega) rfl ?_ | refine j_op rfl ?_ | refine j_pickF rfl ?_ | refine j_pickT rfl ?_ | refine j_region ?_ | refine j_nil ?_ | refine j_then ?_ | refine j_mono (by assumption) ?_ | (refine j_seq fun K hK => ?_) | refine j_gdo rfl ?_ | refine j_gskip_t rfl ?_ | refine j_gskip_f rfl ?_ | refine j_gskip_u rfl ?_ | refine j_gspec rfl ?_ | refine j_block ?_ | refine j_ret ?_ | refine j_then_ret ?_ | refine j_in_ret ?_ | refine j_in_normal ?_ | refine j_exit ?_ | refine j_then_exit ?_ | refine j_in_exit ?_ | refine j_in_past ?_ | refine j_skip ?_ | refine j_cond_t ?_ | refine j_cond_f ?_ | refine j_store rfl ?_ | refine j_still_nil ?_)
    (first | refine j_done (.inl rfl) ?_ | refine j_done (.inr rfl) ?_ | refine j_doneM (.inl rfl) ?_ | refine j_doneM (.inr rfl) ?_)
    exact ⟨_, ⟨rfl, rfl⟩, LE.nil⟩
  · rw [Nat.zero_add] at h1
    rw [h1] at hq ⊢
    rw [if_neg (by omega), Int.toNat_natCast, h2] at hq
    subst hq
    have d1 : Dec ((k : Int) < 0) false := dec_f (by omega)
    have hat : At l k y := ⟨h2⟩
    have f1 : Ft (k < l.length) := ⟨(List.getElem?_eq_some_iff.1 h2).1⟩
    repeat (first | refine j_addN (by omega) rfl ?_ | refine j_subN (by omega) rfl ?_ | refine j_mulN (by omega) rfl ?_ | refine j_remN (by omega) rfl ?_ | refine j_addI (by omega) (by omega) rfl ?_ | refine j_subI (by omega) (by omega) rfl ?_ | refine j_op rfl ?_ | refine j_pickF rfl ?_ | refine j_pickT rfl ?_ | refine j_region ?_ | refine j_nil ?_ | refine j_then ?_ | refine j_mono (by assumption) ?_ | (refine j_seq fun K hK => ?_) | refine j_gdo rfl ?_ | refine j_gskip_t rfl ?_ | refine j_gskip_f rfl ?_ | refine j_gskip_u rfl ?_ | refine j_gspec rfl ?_ | refine j_block ?_ | refine j_ret ?_ | refine j_then_ret ?_ | refine j_in_ret ?_ | refine j_in_normal ?_ | refine j_exit ?_ | refine j_then_exit ?_ | refine j_in_exit ?_ | refine j_in_past ?_ | refine j_skip ?_ | refine j_cond_t ?_ | refine j_cond_f ?_ | refine j_store rfl ?_ | refine j_still_nil ?_)
    (first | refine j_done (.inl rfl) ?_ | refine j_done (.inr rfl) ?_ | refine j_doneM (.inl rfl) ?_ | refine j_doneM (.inr rfl) ?_)
    exact ⟨_, ⟨rfl, rfl⟩, LE.nil⟩
end Go.Proofs.Ytbmafpbjkeehaaa.S
