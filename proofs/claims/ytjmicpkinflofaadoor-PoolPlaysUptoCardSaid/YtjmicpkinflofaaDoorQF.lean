/- pool: the book of kept lists -/
import Derived.Test.YtjmicpkinflofaaDoorQE
namespace Go.Proofs.YtjmicpkinflofaaDoor.S
open Go.RowKit
set_option linter.unusedVariables false
set_option linter.unusedSimpArgs false
set_option maxRecDepth 100000
set_option maxHeartbeats 4000000
set_option synthInstance.maxHeartbeats 400000
set_option synthInstance.maxSize 4000
attribute [local irreducible] wpList Code.wp Exit.then Exit.inBlock stillR bodyPost hR J Back Mid
structure Kp where
  o : Sl PObj
  mo : Sl PObj
  wo : Sl PObj
  wmo : Sl PObj
  q : Sl Int
  mq : Sl Int
  wq : Sl Int
  wmq : Sl Int
def encKp : Enc Kp := ⟨8, by decide, fun k => [.slice k.o.A k.o.xs.length k.o.c, .slice k.mo.A k.mo.xs.length k.mo.c, .slice k.wo.A k.wo.xs.length k.wo.c, .slice k.wmo.A k.wmo.xs.length k.wmo.c, .slice k.q.A k.q.xs.length k.q.c, .slice k.mq.A k.mq.xs.length k.mq.c, .slice k.wq.A k.wq.xs.length k.wq.c, .slice k.wmq.A k.wmq.xs.length k.wmq.c], fun _ => rfl, fun x v h => by simp at h; rcases h with rfl | rfl | rfl | rfl | rfl | rfl | rfl | rfl <;> rfl⟩
instance : EncSz encKp 8 := ⟨rfl⟩
instance encAll_kp {k : Kp} : EncAll encKp k [.slice k.o.A k.o.xs.length k.o.c, .slice k.mo.A k.mo.xs.length k.mo.c, .slice k.wo.A k.wo.xs.length k.wo.c, .slice k.wmo.A k.wmo.xs.length k.wmo.c, .slice k.q.A k.q.xs.length k.q.c, .slice k.mq.A k.mq.xs.length k.mq.c, .slice k.wq.A k.wq.xs.length k.wq.c, .slice k.wmq.A k.wmq.xs.length k.wmq.c] := ⟨rfl⟩
instance decL_kp {A1 A2 A3 A4 A5 A6 A7 A8 : Option Addr} {c1 c2 c3 c4 c5 c6 c7 c8 : Nat} {l1 l2 l3 l4 : List PObj} {l5 l6 l7 l8 : List Int} {vs : List Value} {xs : List Kp} [h : DecL encKp vs xs] :
    DecL encKp (.slice A1 l1.length c1 :: .slice A2 l2.length c2 :: .slice A3 l3.length c3 :: .slice A4 l4.length c4 :: .slice A5 l5.length c5 :: .slice A6 l6.length c6 :: .slice A7 l7.length c7 :: .slice A8 l8.length c8 :: vs) (⟨⟨A1, c1, l1⟩, ⟨A2, c2, l2⟩, ⟨A3, c3, l3⟩, ⟨A4, c4, l4⟩, ⟨A5, c5, l5⟩, ⟨A6, c6, l6⟩, ⟨A7, c7, l7⟩, ⟨A8, c8, l8⟩⟩ :: xs) := ⟨by rw [List.flatMap_cons, h.out]; rfl⟩
structure KpOk (k : Kp) : Prop where
  o : k.wo.xs = k.o.xs
  mo : k.wmo.xs = k.mo.xs
  q : k.wq.xs = k.q.xs
  mq : k.wmq.xs = k.mq.xs
  lo : k.o.xs.length ≤ 70000
  lmo : k.mo.xs.length ≤ 70000
  lq : k.q.xs.length ≤ 70000
  lmq : k.mq.xs.length ≤ 70000
def keptL (k : Kp) : List Hp := [pairR encObj k.o k.mo, own encObj k.wo.A k.wo.c k.wo.xs, own encObj k.wmo.A k.wmo.c k.wmo.xs, pairR encI k.q k.mq, own encI k.wq.A k.wq.c k.wq.xs, own encI k.wmq.A k.wmq.c k.wmq.xs]
def keptR (k : Kp) : Hp := stars (keptL k)
theorem set_same {α : Type} {l : List α} {k : Nat} {x : α} (h : l[k]? = some x) : l.set k x = l := by
  obtain ⟨hk, rfl⟩ := List.getElem?_eq_some_iff.1 h
  exact List.set_getElem_self hk
theorem LE.keptOut {k : Kp} {M : List Hp} : LE (keptR k :: M) (keptL k ++ M) := LE.open1 fun h hh => hh
theorem LE.keptIn {k : Kp} {M : List Hp} : LE (keptL k ++ M) (keptR k :: M) := LE.shut1 fun h hh => hh
attribute [irreducible] keptR
abbrev rngI (m : Int) : Prop := -9223372036854775808 ≤ m ∧ m ≤ 9223372036854775807
theorem still_spec (b : Nat) (p0 p1 p2 r0 r1 r2 mk : Value) (kA : Option Addr) (kc : Nat) (book : List Kp) (hk : ∀ k ∈ book, KpOk k) (hl : book.length ≤ 9223372036854775807) : Spec Tryd.prog 5 [ptr b 0] [cells b 0 [p0, p1, p2, r0, r1, r2, .slice kA book.length kc, mk], own encKp kA kc book, allR keptR book] (fun _ => True) (fun v L => v = .bool true ∧ L = [cells b 0 [p0, p1, p2, r0, r1, r2, .slice kA book.length kc, mk], own encKp kA kc book, allR keptR book]) := by
  unfold ptr
  refine spec_of Tryd.func5 rfl Tryd.ntmps5 fun F hF => ?_
  repeat (first | refine j_addN (by omega) rfl ?_ | refine j_subN (by omega) rfl ?_ | refine j_addI (by omega) (by omega) rfl ?_ | refine j_subI (by omega) (by omega) rfl ?_ | refine j_op rfl ?_ | refine j_pickF rfl ?_ | refine j_pickT rfl ?_ | refine j_region ?_ | refine j_nil ?_ | refine j_then ?_ | refine j_mono (by assumption) ?_ | (refine j_seq fun K hK => ?_) | refine j_gdo rfl ?_ | refine j_gskip_t rfl ?_ | refine j_gskip_f rfl ?_ | refine j_gskip_u rfl ?_ | refine j_gspec rfl ?_ | refine j_block ?_ | refine j_ret ?_ | refine j_then_ret ?_ | refine j_in_ret ?_ | refine j_in_normal ?_ | refine j_exit ?_ | refine j_then_exit ?_ | refine j_in_exit ?_ | refine j_in_past ?_ | refine j_skip ?_ | refine j_cond_t ?_ | refine j_cond_f ?_ | refine j_store rfl ?_ | refine j_still_nil ?_)
  refine j_loop (fun m e L => ∃ i, i ≤ book.length ∧ m = book.length - i ∧ e = [(0, .pointer (some ⟨b, 0, none⟩)), (3, .int .i64 (i : Int))] ∧ L = [cells b 0 [p0, p1, p2, r0, r1, r2, .slice kA book.length kc, mk], own encKp kA kc book, allR keptR book]) book.length _ _ ⟨0, by omega, rfl, rfl, rfl⟩ (by (first | exact sub_nil | (repeat' (first | exact sub_nil | refine sub_cons inferInstance rfl ?_)))) (LE.sub (by (repeat' (first | exact Pick.here | apply Pick.there | apply Picks.cons | exact Picks.nil)))) ?_
  rintro m e L ⟨i, hi, rfl, rfl, rfl⟩
  repeat (first | refine j_addN (by omega) rfl ?_ | refine j_subN (by omega) rfl ?_ | refine j_addI (by omega) (by omega) rfl ?_ | refine j_subI (by omega) (by omega) rfl ?_ | refine j_op rfl ?_ | refine j_pickF rfl ?_ | refine j_pickT rfl ?_ | refine j_region ?_ | refine j_nil ?_ | refine j_then ?_ | refine j_mono (by assumption) ?_ | (refine j_seq fun K hK => ?_) | refine j_gdo rfl ?_ | refine j_gskip_t rfl ?_ | refine j_gskip_f rfl ?_ | refine j_gskip_u rfl ?_ | refine j_gspec rfl ?_ | refine j_block ?_ | refine j_ret ?_ | refine j_then_ret ?_ | refine j_in_ret ?_ | refine j_in_normal ?_ | refine j_exit ?_ | refine j_then_exit ?_ | refine j_in_exit ?_ | refine j_in_past ?_ | refine j_skip ?_ | refine j_cond_t ?_ | refine j_cond_f ?_ | refine j_store rfl ?_ | refine j_still_nil ?_)
  refine j_cond (fun h => ?_) (fun h => ?_)
  · simp only [Bool.or_eq_true, Bool.and_eq_true, Bool.or_eq_false_iff, Bool.and_eq_false_iff, Bool.not_eq_true', Bool.not_eq_false', decide_eq_true_eq, decide_eq_false_iff_not, ne_eq, Decidable.not_not] at h
    have hx := List.getElem?_eq_getElem (show i < book.length by omega)
    have hok := hk book[i] (List.getElem_mem _)
    generalize book[i] = x at hx hok
    have hallAt : ∀ M, LE (allR keptR book :: M) (keptR x :: allR keptR (book.eraseIdx i) :: M) := fun M => LE.allAt hx
    have hallSet : ∀ M, LE (keptR x :: allR keptR (book.eraseIdx i) :: M) (allR keptR book :: M) := fun M => by
      have h1 : LE (keptR x :: allR keptR (book.eraseIdx i) :: M) (allR keptR (book.set i x) :: M) := LE.allSet hx
      rwa [set_same hx] at h1
    have hat : At book i x := ⟨hx⟩
    have s1 := sameRows_spec x.o.A x.wo.A x.o.c x.wo.c x.o.xs x.wo.xs (by have := hok.lo; omega)
    have s2 := sameRows_spec x.mo.A x.wmo.A x.mo.c x.wmo.c x.mo.xs x.wmo.xs (by have := hok.lmo; omega)
    have s3 := sameInts_spec x.q.A x.wq.A x.q.c x.wq.c x.q.xs x.wq.xs (by have := hok.lq; omega)
    have s4 := sameInts_spec x.mq.A x.wmq.A x.mq.c x.wmq.c x.mq.xs x.wmq.xs (by have := hok.lmq; omega)
    rw [decide_eq_true hok.o.symm] at s1
    rw [decide_eq_true hok.mo.symm] at s2
    rw [decide_eq_true hok.q.symm] at s3
    rw [decide_eq_true hok.mq.symm] at s4
    refine j_le (LE.pick (by (first | exact Pick.here | exact Pick.there Pick.here | exact Pick.there (Pick.there Pick.here) | exact Pick.there (Pick.there (Pick.there Pick.here)) | exact Pick.there (Pick.there (Pick.there (Pick.there Pick.here))) | exact Pick.there (Pick.there (Pick.there (Pick.there (Pick.there Pick.here)))) | exact Pick.there (Pick.there (Pick.there (Pick.there (Pick.there (Pick.there Pick.here))))))) (hallAt _)) ?_
    refine j_le LE.keptOut ?_
    simp only [keptL, List.cons_append, List.nil_append]
    repeat (first | refine j_addN (by omega) rfl ?_ | refine j_subN (by omega) rfl ?_ | refine j_addI (by omega) (by omega) rfl ?_ | refine j_subI (by omega) (by omega) rfl ?_ | refine j_op rfl ?_ | refine j_pickF rfl ?_ | refine j_pickT rfl ?_ | refine j_region ?_ | refine j_nil ?_ | refine j_then ?_ | refine j_mono (by assumption) ?_ | (refine j_seq fun K hK => ?_) | refine j_gdo rfl ?_ | refine j_gskip_t rfl ?_ | refine j_gskip_f rfl ?_ | refine j_gskip_u rfl ?_ | refine j_gspec rfl ?_ | refine j_block ?_ | refine j_ret ?_ | refine j_then_ret ?_ | refine j_in_ret ?_ | refine j_in_normal ?_ | refine j_exit ?_ | refine j_then_exit ?_ | refine j_in_exit ?_ | refine j_in_past ?_ | refine j_skip ?_ | refine j_cond_t ?_ | refine j_cond_f ?_ | refine j_store rfl ?_ | refine j_still_nil ?_)
    refine j_alloc rfl fun b4 => ?_
    repeat (first | refine j_addN (by omega) rfl ?_ | refine j_subN (by omega) rfl ?_ | refine j_addI (by omega) (by omega) rfl ?_ | refine j_subI (by omega) (by omega) rfl ?_ | refine j_op rfl ?_ | refine j_pickF rfl ?_ | refine j_pickT rfl ?_ | refine j_region ?_ | refine j_nil ?_ | refine j_then ?_ | refine j_mono (by assumption) ?_ | (refine j_seq fun K hK => ?_) | refine j_gdo rfl ?_ | refine j_gskip_t rfl ?_ | refine j_gskip_f rfl ?_ | refine j_gskip_u rfl ?_ | refine j_gspec rfl ?_ | refine j_block ?_ | refine j_ret ?_ | refine j_then_ret ?_ | refine j_in_ret ?_ | refine j_in_normal ?_ | refine j_exit ?_ | refine j_then_exit ?_ | refine j_in_exit ?_ | refine j_in_past ?_ | refine j_skip ?_ | refine j_cond_t ?_ | refine j_cond_f ?_ | refine j_store rfl ?_ | refine j_still_nil ?_)
    refine j_call s1 rfl .nil (fun F' hF' => ⟨(pair_ro (s := x.o) (t := x.mo) hF' (by (repeat' (first | exact Pick.here | apply Pick.there | apply Picks.cons | exact Picks.nil)))).1, hF'.ro_own⟩) ?_
    rintro _ _ ⟨rfl, rfl⟩
    simp only [List.cons_append, List.nil_append]
    repeat (first | refine j_addN (by omega) rfl ?_ | refine j_subN (by omega) rfl ?_ | refine j_addI (by omega) (by omega) rfl ?_ | refine j_subI (by omega) (by omega) rfl ?_ | refine j_op rfl ?_ | refine j_pickF rfl ?_ | refine j_pickT rfl ?_ | refine j_region ?_ | refine j_nil ?_ | refine j_then ?_ | refine j_mono (by assumption) ?_ | (refine j_seq fun K hK => ?_) | refine j_gdo rfl ?_ | refine j_gskip_t rfl ?_ | refine j_gskip_f rfl ?_ | refine j_gskip_u rfl ?_ | refine j_gspec rfl ?_ | refine j_block ?_ | refine j_ret ?_ | refine j_then_ret ?_ | refine j_in_ret ?_ | refine j_in_normal ?_ | refine j_exit ?_ | refine j_then_exit ?_ | refine j_in_exit ?_ | refine j_in_past ?_ | refine j_skip ?_ | refine j_cond_t ?_ | refine j_cond_f ?_ | refine j_store rfl ?_ | refine j_still_nil ?_)
    refine j_gcall s2 rfl .nil (fun F' hF' => ⟨(pair_ro (s := x.o) (t := x.mo) hF' (by (repeat' (first | exact Pick.here | apply Pick.there | apply Picks.cons | exact Picks.nil)))).2, hF'.ro_own⟩) ?_
    rintro _ _ ⟨rfl, rfl⟩
    simp only [List.cons_append, List.nil_append]
    repeat (first | refine j_addN (by omega) rfl ?_ | refine j_subN (by omega) rfl ?_ | refine j_addI (by omega) (by omega) rfl ?_ | refine j_subI (by omega) (by omega) rfl ?_ | refine j_op rfl ?_ | refine j_pickF rfl ?_ | refine j_pickT rfl ?_ | refine j_region ?_ | refine j_nil ?_ | refine j_then ?_ | refine j_mono (by assumption) ?_ | (refine j_seq fun K hK => ?_) | refine j_gdo rfl ?_ | refine j_gskip_t rfl ?_ | refine j_gskip_f rfl ?_ | refine j_gskip_u rfl ?_ | refine j_gspec rfl ?_ | refine j_block ?_ | refine j_ret ?_ | refine j_then_ret ?_ | refine j_in_ret ?_ | refine j_in_normal ?_ | refine j_exit ?_ | refine j_then_exit ?_ | refine j_in_exit ?_ | refine j_in_past ?_ | refine j_skip ?_ | refine j_cond_t ?_ | refine j_cond_f ?_ | refine j_store rfl ?_ | refine j_still_nil ?_)
    refine j_gcall s3 rfl .nil (fun F' hF' => ⟨(pair_ro (s := x.q) (t := x.mq) hF' (by (repeat' (first | exact Pick.here | apply Pick.there | apply Picks.cons | exact Picks.nil)))).1, hF'.ro_own⟩) ?_
    rintro _ _ ⟨rfl, rfl⟩
    simp only [List.cons_append, List.nil_append]
    repeat (first | refine j_addN (by omega) rfl ?_ | refine j_subN (by omega) rfl ?_ | refine j_addI (by omega) (by omega) rfl ?_ | refine j_subI (by omega) (by omega) rfl ?_ | refine j_op rfl ?_ | refine j_pickF rfl ?_ | refine j_pickT rfl ?_ | refine j_region ?_ | refine j_nil ?_ | refine j_then ?_ | refine j_mono (by assumption) ?_ | (refine j_seq fun K hK => ?_) | refine j_gdo rfl ?_ | refine j_gskip_t rfl ?_ | refine j_gskip_f rfl ?_ | refine j_gskip_u rfl ?_ | refine j_gspec rfl ?_ | refine j_block ?_ | refine j_ret ?_ | refine j_then_ret ?_ | refine j_in_ret ?_ | refine j_in_normal ?_ | refine j_exit ?_ | refine j_then_exit ?_ | refine j_in_exit ?_ | refine j_in_past ?_ | refine j_skip ?_ | refine j_cond_t ?_ | refine j_cond_f ?_ | refine j_store rfl ?_ | refine j_still_nil ?_)
    refine j_gcall s4 rfl .nil (fun F' hF' => ⟨(pair_ro (s := x.q) (t := x.mq) hF' (by (repeat' (first | exact Pick.here | apply Pick.there | apply Picks.cons | exact Picks.nil)))).2, hF'.ro_own⟩) ?_
    rintro _ _ ⟨rfl, rfl⟩
    simp only [List.cons_append, List.nil_append]
    repeat (first | refine j_addN (by omega) rfl ?_ | refine j_subN (by omega) rfl ?_ | refine j_addI (by omega) (by omega) rfl ?_ | refine j_subI (by omega) (by omega) rfl ?_ | refine j_op rfl ?_ | refine j_pickF rfl ?_ | refine j_pickT rfl ?_ | refine j_region ?_ | refine j_nil ?_ | refine j_then ?_ | refine j_mono (by assumption) ?_ | (refine j_seq fun K hK => ?_) | refine j_gdo rfl ?_ | refine j_gskip_t rfl ?_ | refine j_gskip_f rfl ?_ | refine j_gskip_u rfl ?_ | refine j_gspec rfl ?_ | refine j_block ?_ | refine j_ret ?_ | refine j_then_ret ?_ | refine j_in_ret ?_ | refine j_in_normal ?_ | refine j_exit ?_ | refine j_then_exit ?_ | refine j_in_exit ?_ | refine j_in_past ?_ | refine j_skip ?_ | refine j_cond_t ?_ | refine j_cond_f ?_ | refine j_store rfl ?_ | refine j_still_nil ?_)
    refine j_back (book.length - (i + 1)) _ _ ⟨i + 1, by omega, rfl, rfl, rfl⟩ (by omega) (by (first | exact sub_nil | (repeat' (first | exact sub_nil | refine sub_cons inferInstance rfl ?_)))) ?_
    refine LE.trans (LE.sub (M := keptL x ++ [allR keptR (book.eraseIdx i), cells b 0 [p0, p1, p2, r0, r1, r2, .slice kA book.length kc, mk], own encKp kA kc book]) (by simp only [keptL, List.cons_append, List.nil_append]; (repeat' (first | exact Pick.here | apply Pick.there | apply Picks.cons | exact Picks.nil)))) ?_
    refine LE.trans LE.keptIn ?_
    refine LE.trans (hallSet _) ?_
    exact (LE.sub (by (repeat' (first | exact Pick.here | apply Pick.there | apply Picks.cons | exact Picks.nil))))
  · simp only [Bool.or_eq_true, Bool.and_eq_true, Bool.or_eq_false_iff, Bool.and_eq_false_iff, Bool.not_eq_true', Bool.not_eq_false', decide_eq_true_eq, decide_eq_false_iff_not, ne_eq, Decidable.not_not] at h
    repeat (first | refine j_addN (by omega) rfl ?_ | refine j_subN (by omega) rfl ?_ | refine j_addI (by omega) (by omega) rfl ?_ | refine j_subI (by omega) (by omega) rfl ?_ | refine j_op rfl ?_ | refine j_pickF rfl ?_ | refine j_pickT rfl ?_ | refine j_region ?_ | refine j_nil ?_ | refine j_then ?_ | refine j_mono (by assumption) ?_ | (refine j_seq fun K hK => ?_) | refine j_gdo rfl ?_ | refine j_gskip_t rfl ?_ | refine j_gskip_f rfl ?_ | refine j_gskip_u rfl ?_ | refine j_gspec rfl ?_ | refine j_block ?_ | refine j_ret ?_ | refine j_then_ret ?_ | refine j_in_ret ?_ | refine j_in_normal ?_ | refine j_exit ?_ | refine j_then_exit ?_ | refine j_in_exit ?_ | refine j_in_past ?_ | refine j_skip ?_ | refine j_cond_t ?_ | refine j_cond_f ?_ | refine j_store rfl ?_ | refine j_still_nil ?_)
    (first | refine j_done (.inl rfl) ?_ | refine j_done (.inr rfl) ?_ | refine j_doneM (.inl rfl) ?_ | refine j_doneM (.inr rfl) ?_)
    exact ⟨_, ⟨rfl, rfl⟩, (LE.sub (by (repeat' (first | exact Pick.here | apply Pick.there | apply Picks.cons | exact Picks.nil))))⟩
end Go.Proofs.YtjmicpkinflofaaDoor.S
