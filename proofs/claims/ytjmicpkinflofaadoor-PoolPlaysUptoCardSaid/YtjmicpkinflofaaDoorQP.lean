/- pool: plays, all kinds -/
import Derived.Test.YtjmicpkinflofaaDoorQO
namespace Go.Proofs.YtjmicpkinflofaaDoor.S
open Go.RowKit
set_option linter.unusedVariables false
set_option linter.unusedSimpArgs false
set_option maxRecDepth 100000
set_option maxHeartbeats 4000000
set_option synthInstance.maxHeartbeats 400000
set_option synthInstance.maxSize 4000
attribute [local irreducible] wpList Code.wp Exit.then Exit.inBlock stillR bodyPost hR J Back Mid
abbrev PlR (st : Sl PObj × Sl Int) (F : Fr) : Prop := Tab F ∧ RO F encObj st.1.A st.1.xs ∧ RO F encI st.2.A st.2.xs
theorem PlQ.more {b n n' : Nat} (h : n ≤ n') {v : Value} {L : List Hp} (hq : PlQ b n v L) : PlQ b n' v L := by
  obtain ⟨h1, ps, kA, kc, book, m, w1, w2, w3, w4, w5⟩ := hq
  exact ⟨h1, ps, kA, kc, book, m, w1, w2, w3, by omega, w5⟩
theorem Spec.moreR {P : Program} {f : FuncId} {vs : List Value} {Lp : List Hp} {R R' : Fr → Prop} {S : Value → List Hp → Prop} (h : Spec P f vs Lp R S) (hr : ∀ F, R' F → R F) : Spec P f vs Lp R' S := fun F w hR hs => h F w (hr F hR) hs
section
variable (b : Nat) (ps : List Pc) (kA : Option Addr) (kc : Nat) (book : List Kp) (m : Int) (hp : ps.length = 3) (hbk : ∀ k ∈ book, KpOk k) (hm : rngI m)
include hp hbk hm
theorem plays_k1 (at_ a bb bucket : Int) (name tag : ByteArray) (st : Sl PObj × Sl Int) :
    Spec Tryd.prog 4 [ptr b 0, opV ⟨1, at_, a, bb, bucket, name, tag, st⟩] (BL b ps kA kc book m) (PlR st) (PlQ b (book.length + 3)) := by
  have hpl := place_spec at_
  have hk := plF_lt at_
  generalize plF at_ = k at hpl hk
  have hcl := news_new b ps kA kc book m hp hbk hm k hk at_ a bb bucket name tag st
  unfold ptr opV BL at *
  refine spec_of Tryd.func4 rfl Tryd.ntmps4 fun F hF => ?_
  obtain ⟨tab, ro1, ro2⟩ := hF
  have hx := List.getElem?_eq_getElem (show k < ps.length by omega)
  generalize ps[k] = x at hx
  obtain ⟨A, R, s⟩ := x
  have l1 : L3 (own1 ps) := ⟨by rw [List.length_map]; exact hp⟩
  have l2 : L3 (ref1 ps) := ⟨by rw [List.length_map]; exact hp⟩
  have hk3 : Ft (k < 3) := ⟨hk⟩
  have ha1 := own1_at hx
  have ha2 := ref1_at hx
  have q1 : Dec ((1 : Int) = 1) true := dec_t rfl
  refine j_seq fun K hK => ?_
  refine j_region ?_
  refine j_box rfl fun b4 => ?_
  repeat (first | refine j_addN (by omega) rfl ?_ | refine j_subN (by omega) rfl ?_ | refine j_addI (by omega) (by omega) rfl ?_ | refine j_subI (by omega) (by omega) rfl ?_ | refine j_op rfl ?_ | refine j_pickF rfl ?_ | refine j_pickT rfl ?_ | refine j_region ?_ | refine j_nil ?_ | refine j_then ?_ | refine j_mono (by assumption) ?_ | (refine j_seq fun K hK => ?_) | refine j_gdo rfl ?_ | refine j_gskip_t rfl ?_ | refine j_gskip_f rfl ?_ | refine j_gskip_u rfl ?_ | refine j_gspec rfl ?_ | refine j_block ?_ | refine j_ret ?_ | refine j_then_ret ?_ | refine j_in_ret ?_ | refine j_in_normal ?_ | refine j_exit ?_ | refine j_then_exit ?_ | refine j_in_exit ?_ | refine j_in_past ?_ | refine j_skip ?_ | refine j_cond_t ?_ | refine j_cond_f ?_ | refine j_store rfl ?_ | refine j_still_nil ?_)
  refine j_call hpl rfl .nil (fun _ _ => trivial) ?_
  rintro _ _ ⟨rfl, rfl⟩
  simp only [List.cons_append, List.nil_append]
  repeat (first | refine j_addN (by omega) rfl ?_ | refine j_subN (by omega) rfl ?_ | refine j_addI (by omega) (by omega) rfl ?_ | refine j_subI (by omega) (by omega) rfl ?_ | refine j_op rfl ?_ | refine j_pickF rfl ?_ | refine j_pickT rfl ?_ | refine j_region ?_ | refine j_nil ?_ | refine j_then ?_ | refine j_mono (by assumption) ?_ | (refine j_seq fun K hK => ?_) | refine j_gdo rfl ?_ | refine j_gskip_t rfl ?_ | refine j_gskip_f rfl ?_ | refine j_gskip_u rfl ?_ | refine j_gspec rfl ?_ | refine j_block ?_ | refine j_ret ?_ | refine j_then_ret ?_ | refine j_in_ret ?_ | refine j_in_normal ?_ | refine j_exit ?_ | refine j_then_exit ?_ | refine j_in_exit ?_ | refine j_in_past ?_ | refine j_skip ?_ | refine j_cond_t ?_ | refine j_cond_f ?_ | refine j_store rfl ?_ | refine j_still_nil ?_)
  refine j_call hcl rfl (by (repeat' (first | exact Pick.here | apply Pick.there | apply Picks.cons | exact Picks.nil))) (fun F' hF' => trivial) ?_
  rintro _ _ ⟨rfl, ps2, kA2, kc2, book2, m2, w1, w2, w3, w4, rfl⟩
  unfold BL
  simp only [List.cons_append, List.nil_append]
  repeat (first | refine j_addN (by omega) rfl ?_ | refine j_subN (by omega) rfl ?_ | refine j_addI (by omega) (by omega) rfl ?_ | refine j_subI (by omega) (by omega) rfl ?_ | refine j_op rfl ?_ | refine j_pickF rfl ?_ | refine j_pickT rfl ?_ | refine j_region ?_ | refine j_nil ?_ | refine j_then ?_ | refine j_mono (by assumption) ?_ | (refine j_seq fun K hK => ?_) | refine j_gdo rfl ?_ | refine j_gskip_t rfl ?_ | refine j_gskip_f rfl ?_ | refine j_gskip_u rfl ?_ | refine j_gspec rfl ?_ | refine j_block ?_ | refine j_ret ?_ | refine j_then_ret ?_ | refine j_in_ret ?_ | refine j_in_normal ?_ | refine j_exit ?_ | refine j_then_exit ?_ | refine j_in_exit ?_ | refine j_in_past ?_ | refine j_skip ?_ | refine j_cond_t ?_ | refine j_cond_f ?_ | refine j_store rfl ?_ | refine j_still_nil ?_)
  (first | refine j_done (.inl rfl) ?_ | refine j_done (.inr rfl) ?_ | refine j_doneM (.inl rfl) ?_ | refine j_doneM (.inr rfl) ?_)
  refine ⟨_, ⟨rfl, ps2, kA2, kc2, book2, m2, w1, w2, w3, by omega, rfl⟩, ?_⟩
  unfold BL
  exact (LE.sub (by (repeat' (first | exact Pick.here | apply Pick.there | apply Picks.cons | exact Picks.nil))))
theorem plays_k2 (at_ a bb bucket : Int) (name tag : ByteArray) (st : Sl PObj × Sl Int) (h1 : st.1.xs.length * 48 ≤ 140737488351232) (h2 : st.2.xs.length * 8 ≤ 140737488351232) :
    Spec Tryd.prog 4 [ptr b 0, opV ⟨2, at_, a, bb, bucket, name, tag, st⟩] (BL b ps kA kc book m) (PlR st) (PlQ b (book.length + 3)) := by
  have hpl := place_spec at_
  have hk := plF_lt at_
  generalize plF at_ = k at hpl hk
  have hcl := news_load b ps kA kc book m hp hbk hm k hk at_ a bb bucket name tag st h1 h2
  unfold ptr opV BL at *
  refine spec_of Tryd.func4 rfl Tryd.ntmps4 fun F hF => ?_
  obtain ⟨tab, ro1, ro2⟩ := hF
  have hx := List.getElem?_eq_getElem (show k < ps.length by omega)
  generalize ps[k] = x at hx
  obtain ⟨A, R, s⟩ := x
  have l1 : L3 (own1 ps) := ⟨by rw [List.length_map]; exact hp⟩
  have l2 : L3 (ref1 ps) := ⟨by rw [List.length_map]; exact hp⟩
  have hk3 : Ft (k < 3) := ⟨hk⟩
  have ha1 := own1_at hx
  have ha2 := ref1_at hx
  have q1 : Dec ((2 : Int) = 1) false := dec_f (by omega)
  have q2 : Dec ((2 : Int) = 2) true := dec_t rfl
  refine j_seq fun K hK => ?_
  refine j_region ?_
  refine j_box rfl fun b4 => ?_
  repeat (first | refine j_addN (by omega) rfl ?_ | refine j_subN (by omega) rfl ?_ | refine j_addI (by omega) (by omega) rfl ?_ | refine j_subI (by omega) (by omega) rfl ?_ | refine j_op rfl ?_ | refine j_pickF rfl ?_ | refine j_pickT rfl ?_ | refine j_region ?_ | refine j_nil ?_ | refine j_then ?_ | refine j_mono (by assumption) ?_ | (refine j_seq fun K hK => ?_) | refine j_gdo rfl ?_ | refine j_gskip_t rfl ?_ | refine j_gskip_f rfl ?_ | refine j_gskip_u rfl ?_ | refine j_gspec rfl ?_ | refine j_block ?_ | refine j_ret ?_ | refine j_then_ret ?_ | refine j_in_ret ?_ | refine j_in_normal ?_ | refine j_exit ?_ | refine j_then_exit ?_ | refine j_in_exit ?_ | refine j_in_past ?_ | refine j_skip ?_ | refine j_cond_t ?_ | refine j_cond_f ?_ | refine j_store rfl ?_ | refine j_still_nil ?_)
  refine j_call hpl rfl .nil (fun _ _ => trivial) ?_
  rintro _ _ ⟨rfl, rfl⟩
  simp only [List.cons_append, List.nil_append]
  repeat (first | refine j_addN (by omega) rfl ?_ | refine j_subN (by omega) rfl ?_ | refine j_addI (by omega) (by omega) rfl ?_ | refine j_subI (by omega) (by omega) rfl ?_ | refine j_op rfl ?_ | refine j_pickF rfl ?_ | refine j_pickT rfl ?_ | refine j_region ?_ | refine j_nil ?_ | refine j_then ?_ | refine j_mono (by assumption) ?_ | (refine j_seq fun K hK => ?_) | refine j_gdo rfl ?_ | refine j_gskip_t rfl ?_ | refine j_gskip_f rfl ?_ | refine j_gskip_u rfl ?_ | refine j_gspec rfl ?_ | refine j_block ?_ | refine j_ret ?_ | refine j_then_ret ?_ | refine j_in_ret ?_ | refine j_in_normal ?_ | refine j_exit ?_ | refine j_then_exit ?_ | refine j_in_exit ?_ | refine j_in_past ?_ | refine j_skip ?_ | refine j_cond_t ?_ | refine j_cond_f ?_ | refine j_store rfl ?_ | refine j_still_nil ?_)
  refine j_call hcl rfl (by (repeat' (first | exact Pick.here | apply Pick.there | apply Picks.cons | exact Picks.nil))) (fun F' hF' => ⟨ro1.ext hF', ro2.ext hF'⟩) ?_
  rintro _ _ ⟨rfl, ps2, kA2, kc2, book2, m2, w1, w2, w3, w4, rfl⟩
  unfold BL
  simp only [List.cons_append, List.nil_append]
  repeat (first | refine j_addN (by omega) rfl ?_ | refine j_subN (by omega) rfl ?_ | refine j_addI (by omega) (by omega) rfl ?_ | refine j_subI (by omega) (by omega) rfl ?_ | refine j_op rfl ?_ | refine j_pickF rfl ?_ | refine j_pickT rfl ?_ | refine j_region ?_ | refine j_nil ?_ | refine j_then ?_ | refine j_mono (by assumption) ?_ | (refine j_seq fun K hK => ?_) | refine j_gdo rfl ?_ | refine j_gskip_t rfl ?_ | refine j_gskip_f rfl ?_ | refine j_gskip_u rfl ?_ | refine j_gspec rfl ?_ | refine j_block ?_ | refine j_ret ?_ | refine j_then_ret ?_ | refine j_in_ret ?_ | refine j_in_normal ?_ | refine j_exit ?_ | refine j_then_exit ?_ | refine j_in_exit ?_ | refine j_in_past ?_ | refine j_skip ?_ | refine j_cond_t ?_ | refine j_cond_f ?_ | refine j_store rfl ?_ | refine j_still_nil ?_)
  (first | refine j_done (.inl rfl) ?_ | refine j_done (.inr rfl) ?_ | refine j_doneM (.inl rfl) ?_ | refine j_doneM (.inr rfl) ?_)
  refine ⟨_, ⟨rfl, ps2, kA2, kc2, book2, m2, w1, w2, w3, by omega, rfl⟩, ?_⟩
  unfold BL
  exact (LE.sub (by (repeat' (first | exact Pick.here | apply Pick.there | apply Picks.cons | exact Picks.nil))))
theorem plays_k3 (at_ a bb bucket : Int) (name tag : ByteArray) (st : Sl PObj × Sl Int) :
    Spec Tryd.prog 4 [ptr b 0, opV ⟨3, at_, a, bb, bucket, name, tag, st⟩] (BL b ps kA kc book m) (PlR st) (PlQ b (book.length + 3)) := by
  have hpl := place_spec at_
  have hk := plF_lt at_
  generalize plF at_ = k at hpl hk
  have hcl := news_again b ps kA kc book m hp hbk hm k hk at_ a bb bucket name tag st
  unfold ptr opV BL at *
  refine spec_of Tryd.func4 rfl Tryd.ntmps4 fun F hF => ?_
  obtain ⟨tab, ro1, ro2⟩ := hF
  have hx := List.getElem?_eq_getElem (show k < ps.length by omega)
  generalize ps[k] = x at hx
  obtain ⟨A, R, s⟩ := x
  have l1 : L3 (own1 ps) := ⟨by rw [List.length_map]; exact hp⟩
  have l2 : L3 (ref1 ps) := ⟨by rw [List.length_map]; exact hp⟩
  have hk3 : Ft (k < 3) := ⟨hk⟩
  have ha1 := own1_at hx
  have ha2 := ref1_at hx
  have q1 : Dec ((3 : Int) = 1) false := dec_f (by omega)
  have q2 : Dec ((3 : Int) = 2) false := dec_f (by omega)
  have q3 : Dec ((3 : Int) = 3) true := dec_t rfl
  refine j_seq fun K hK => ?_
  refine j_region ?_
  refine j_box rfl fun b4 => ?_
  repeat (first | refine j_addN (by omega) rfl ?_ | refine j_subN (by omega) rfl ?_ | refine j_addI (by omega) (by omega) rfl ?_ | refine j_subI (by omega) (by omega) rfl ?_ | refine j_op rfl ?_ | refine j_pickF rfl ?_ | refine j_pickT rfl ?_ | refine j_region ?_ | refine j_nil ?_ | refine j_then ?_ | refine j_mono (by assumption) ?_ | (refine j_seq fun K hK => ?_) | refine j_gdo rfl ?_ | refine j_gskip_t rfl ?_ | refine j_gskip_f rfl ?_ | refine j_gskip_u rfl ?_ | refine j_gspec rfl ?_ | refine j_block ?_ | refine j_ret ?_ | refine j_then_ret ?_ | refine j_in_ret ?_ | refine j_in_normal ?_ | refine j_exit ?_ | refine j_then_exit ?_ | refine j_in_exit ?_ | refine j_in_past ?_ | refine j_skip ?_ | refine j_cond_t ?_ | refine j_cond_f ?_ | refine j_store rfl ?_ | refine j_still_nil ?_)
  refine j_call hpl rfl .nil (fun _ _ => trivial) ?_
  rintro _ _ ⟨rfl, rfl⟩
  simp only [List.cons_append, List.nil_append]
  repeat (first | refine j_addN (by omega) rfl ?_ | refine j_subN (by omega) rfl ?_ | refine j_addI (by omega) (by omega) rfl ?_ | refine j_subI (by omega) (by omega) rfl ?_ | refine j_op rfl ?_ | refine j_pickF rfl ?_ | refine j_pickT rfl ?_ | refine j_region ?_ | refine j_nil ?_ | refine j_then ?_ | refine j_mono (by assumption) ?_ | (refine j_seq fun K hK => ?_) | refine j_gdo rfl ?_ | refine j_gskip_t rfl ?_ | refine j_gskip_f rfl ?_ | refine j_gskip_u rfl ?_ | refine j_gspec rfl ?_ | refine j_block ?_ | refine j_ret ?_ | refine j_then_ret ?_ | refine j_in_ret ?_ | refine j_in_normal ?_ | refine j_exit ?_ | refine j_then_exit ?_ | refine j_in_exit ?_ | refine j_in_past ?_ | refine j_skip ?_ | refine j_cond_t ?_ | refine j_cond_f ?_ | refine j_store rfl ?_ | refine j_still_nil ?_)
  refine j_call hcl rfl (by (repeat' (first | exact Pick.here | apply Pick.there | apply Picks.cons | exact Picks.nil))) (fun F' hF' => trivial) ?_
  rintro _ _ ⟨rfl, ps2, kA2, kc2, book2, m2, w1, w2, w3, w4, rfl⟩
  unfold BL
  simp only [List.cons_append, List.nil_append]
  repeat (first | refine j_addN (by omega) rfl ?_ | refine j_subN (by omega) rfl ?_ | refine j_addI (by omega) (by omega) rfl ?_ | refine j_subI (by omega) (by omega) rfl ?_ | refine j_op rfl ?_ | refine j_pickF rfl ?_ | refine j_pickT rfl ?_ | refine j_region ?_ | refine j_nil ?_ | refine j_then ?_ | refine j_mono (by assumption) ?_ | (refine j_seq fun K hK => ?_) | refine j_gdo rfl ?_ | refine j_gskip_t rfl ?_ | refine j_gskip_f rfl ?_ | refine j_gskip_u rfl ?_ | refine j_gspec rfl ?_ | refine j_block ?_ | refine j_ret ?_ | refine j_then_ret ?_ | refine j_in_ret ?_ | refine j_in_normal ?_ | refine j_exit ?_ | refine j_then_exit ?_ | refine j_in_exit ?_ | refine j_in_past ?_ | refine j_skip ?_ | refine j_cond_t ?_ | refine j_cond_f ?_ | refine j_store rfl ?_ | refine j_still_nil ?_)
  (first | refine j_done (.inl rfl) ?_ | refine j_done (.inr rfl) ?_ | refine j_doneM (.inl rfl) ?_ | refine j_doneM (.inr rfl) ?_)
  refine ⟨_, ⟨rfl, ps2, kA2, kc2, book2, m2, w1, w2, w3, by omega, rfl⟩, ?_⟩
  unfold BL
  exact (LE.sub (by (repeat' (first | exact Pick.here | apply Pick.there | apply Picks.cons | exact Picks.nil))))
theorem plays_k4 (at_ a bb bucket : Int) (name tag : ByteArray) (st : Sl PObj × Sl Int) :
    Spec Tryd.prog 4 [ptr b 0, opV ⟨4, at_, a, bb, bucket, name, tag, st⟩] (BL b ps kA kc book m) (PlR st) (PlQ b (book.length + 3)) := by
  have hpl := place_spec at_
  have hk := plF_lt at_
  generalize plF at_ = k at hpl hk
  have hcl := news_copy b ps kA kc book m hp hbk hm k hk at_ a bb bucket name tag st
  unfold ptr opV BL at *
  refine spec_of Tryd.func4 rfl Tryd.ntmps4 fun F hF => ?_
  obtain ⟨tab, ro1, ro2⟩ := hF
  have hx := List.getElem?_eq_getElem (show k < ps.length by omega)
  generalize ps[k] = x at hx
  obtain ⟨A, R, s⟩ := x
  have l1 : L3 (own1 ps) := ⟨by rw [List.length_map]; exact hp⟩
  have l2 : L3 (ref1 ps) := ⟨by rw [List.length_map]; exact hp⟩
  have hk3 : Ft (k < 3) := ⟨hk⟩
  have ha1 := own1_at hx
  have ha2 := ref1_at hx
  have q1 : Dec ((4 : Int) = 1) false := dec_f (by omega)
  have q2 : Dec ((4 : Int) = 2) false := dec_f (by omega)
  have q3 : Dec ((4 : Int) = 3) false := dec_f (by omega)
  have q4 : Dec ((4 : Int) = 4) true := dec_t rfl
  refine j_seq fun K hK => ?_
  refine j_region ?_
  refine j_box rfl fun b4 => ?_
  repeat (first | refine j_addN (by omega) rfl ?_ | refine j_subN (by omega) rfl ?_ | refine j_addI (by omega) (by omega) rfl ?_ | refine j_subI (by omega) (by omega) rfl ?_ | refine j_op rfl ?_ | refine j_pickF rfl ?_ | refine j_pickT rfl ?_ | refine j_region ?_ | refine j_nil ?_ | refine j_then ?_ | refine j_mono (by assumption) ?_ | (refine j_seq fun K hK => ?_) | refine j_gdo rfl ?_ | refine j_gskip_t rfl ?_ | refine j_gskip_f rfl ?_ | refine j_gskip_u rfl ?_ | refine j_gspec rfl ?_ | refine j_block ?_ | refine j_ret ?_ | refine j_then_ret ?_ | refine j_in_ret ?_ | refine j_in_normal ?_ | refine j_exit ?_ | refine j_then_exit ?_ | refine j_in_exit ?_ | refine j_in_past ?_ | refine j_skip ?_ | refine j_cond_t ?_ | refine j_cond_f ?_ | refine j_store rfl ?_ | refine j_still_nil ?_)
  refine j_call hpl rfl .nil (fun _ _ => trivial) ?_
  rintro _ _ ⟨rfl, rfl⟩
  simp only [List.cons_append, List.nil_append]
  repeat (first | refine j_addN (by omega) rfl ?_ | refine j_subN (by omega) rfl ?_ | refine j_addI (by omega) (by omega) rfl ?_ | refine j_subI (by omega) (by omega) rfl ?_ | refine j_op rfl ?_ | refine j_pickF rfl ?_ | refine j_pickT rfl ?_ | refine j_region ?_ | refine j_nil ?_ | refine j_then ?_ | refine j_mono (by assumption) ?_ | (refine j_seq fun K hK => ?_) | refine j_gdo rfl ?_ | refine j_gskip_t rfl ?_ | refine j_gskip_f rfl ?_ | refine j_gskip_u rfl ?_ | refine j_gspec rfl ?_ | refine j_block ?_ | refine j_ret ?_ | refine j_then_ret ?_ | refine j_in_ret ?_ | refine j_in_normal ?_ | refine j_exit ?_ | refine j_then_exit ?_ | refine j_in_exit ?_ | refine j_in_past ?_ | refine j_skip ?_ | refine j_cond_t ?_ | refine j_cond_f ?_ | refine j_store rfl ?_ | refine j_still_nil ?_)
  refine j_call hcl rfl (by (repeat' (first | exact Pick.here | apply Pick.there | apply Picks.cons | exact Picks.nil))) (fun F' hF' => trivial) ?_
  rintro _ _ ⟨rfl, ps2, kA2, kc2, book2, m2, w1, w2, w3, w4, rfl⟩
  unfold BL
  simp only [List.cons_append, List.nil_append]
  repeat (first | refine j_addN (by omega) rfl ?_ | refine j_subN (by omega) rfl ?_ | refine j_addI (by omega) (by omega) rfl ?_ | refine j_subI (by omega) (by omega) rfl ?_ | refine j_op rfl ?_ | refine j_pickF rfl ?_ | refine j_pickT rfl ?_ | refine j_region ?_ | refine j_nil ?_ | refine j_then ?_ | refine j_mono (by assumption) ?_ | (refine j_seq fun K hK => ?_) | refine j_gdo rfl ?_ | refine j_gskip_t rfl ?_ | refine j_gskip_f rfl ?_ | refine j_gskip_u rfl ?_ | refine j_gspec rfl ?_ | refine j_block ?_ | refine j_ret ?_ | refine j_then_ret ?_ | refine j_in_ret ?_ | refine j_in_normal ?_ | refine j_exit ?_ | refine j_then_exit ?_ | refine j_in_exit ?_ | refine j_in_past ?_ | refine j_skip ?_ | refine j_cond_t ?_ | refine j_cond_f ?_ | refine j_store rfl ?_ | refine j_still_nil ?_)
  (first | refine j_done (.inl rfl) ?_ | refine j_done (.inr rfl) ?_ | refine j_doneM (.inl rfl) ?_ | refine j_doneM (.inr rfl) ?_)
  refine ⟨_, ⟨rfl, ps2, kA2, kc2, book2, m2, w1, w2, w3, by omega, rfl⟩, ?_⟩
  unfold BL
  exact (LE.sub (by (repeat' (first | exact Pick.here | apply Pick.there | apply Picks.cons | exact Picks.nil))))
theorem plays_k5 (at_ a bb bucket : Int) (name tag : ByteArray) (st : Sl PObj × Sl Int) (hbl : book.length + 3 ≤ 100000000) :
    Spec Tryd.prog 4 [ptr b 0, opV ⟨5, at_, a, bb, bucket, name, tag, st⟩] (BL b ps kA kc book m) (PlR st) (PlQ b (book.length + 3)) := by
  have hpl := place_spec at_
  have hk := plF_lt at_
  generalize plF at_ = k at hpl hk
  have hcl := asks_state b ps kA kc book m hp hbk hm k hk hbl at_ a bb bucket name tag st
  unfold ptr opV BL at *
  refine spec_of Tryd.func4 rfl Tryd.ntmps4 fun F hF => ?_
  obtain ⟨tab, ro1, ro2⟩ := hF
  have hx := List.getElem?_eq_getElem (show k < ps.length by omega)
  generalize ps[k] = x at hx
  obtain ⟨A, R, s⟩ := x
  have l1 : L3 (own1 ps) := ⟨by rw [List.length_map]; exact hp⟩
  have l2 : L3 (ref1 ps) := ⟨by rw [List.length_map]; exact hp⟩
  have hk3 : Ft (k < 3) := ⟨hk⟩
  have ha1 := own1_at hx
  have ha2 := ref1_at hx
  have q1 : Dec ((5 : Int) = 1) false := dec_f (by omega)
  have q2 : Dec ((5 : Int) = 2) false := dec_f (by omega)
  have q3 : Dec ((5 : Int) = 3) false := dec_f (by omega)
  have q4 : Dec ((5 : Int) = 4) false := dec_f (by omega)
  have q5 : Dec ((5 : Int) = 5) true := dec_t rfl
  refine j_seq fun K hK => ?_
  refine j_region ?_
  refine j_box rfl fun b4 => ?_
  repeat (first | refine j_addN (by omega) rfl ?_ | refine j_subN (by omega) rfl ?_ | refine j_addI (by omega) (by omega) rfl ?_ | refine j_subI (by omega) (by omega) rfl ?_ | refine j_op rfl ?_ | refine j_pickF rfl ?_ | refine j_pickT rfl ?_ | refine j_region ?_ | refine j_nil ?_ | refine j_then ?_ | refine j_mono (by assumption) ?_ | (refine j_seq fun K hK => ?_) | refine j_gdo rfl ?_ | refine j_gskip_t rfl ?_ | refine j_gskip_f rfl ?_ | refine j_gskip_u rfl ?_ | refine j_gspec rfl ?_ | refine j_block ?_ | refine j_ret ?_ | refine j_then_ret ?_ | refine j_in_ret ?_ | refine j_in_normal ?_ | refine j_exit ?_ | refine j_then_exit ?_ | refine j_in_exit ?_ | refine j_in_past ?_ | refine j_skip ?_ | refine j_cond_t ?_ | refine j_cond_f ?_ | refine j_store rfl ?_ | refine j_still_nil ?_)
  refine j_call hpl rfl .nil (fun _ _ => trivial) ?_
  rintro _ _ ⟨rfl, rfl⟩
  simp only [List.cons_append, List.nil_append]
  repeat (first | refine j_addN (by omega) rfl ?_ | refine j_subN (by omega) rfl ?_ | refine j_addI (by omega) (by omega) rfl ?_ | refine j_subI (by omega) (by omega) rfl ?_ | refine j_op rfl ?_ | refine j_pickF rfl ?_ | refine j_pickT rfl ?_ | refine j_region ?_ | refine j_nil ?_ | refine j_then ?_ | refine j_mono (by assumption) ?_ | (refine j_seq fun K hK => ?_) | refine j_gdo rfl ?_ | refine j_gskip_t rfl ?_ | refine j_gskip_f rfl ?_ | refine j_gskip_u rfl ?_ | refine j_gspec rfl ?_ | refine j_block ?_ | refine j_ret ?_ | refine j_then_ret ?_ | refine j_in_ret ?_ | refine j_in_normal ?_ | refine j_exit ?_ | refine j_then_exit ?_ | refine j_in_exit ?_ | refine j_in_past ?_ | refine j_skip ?_ | refine j_cond_t ?_ | refine j_cond_f ?_ | refine j_store rfl ?_ | refine j_still_nil ?_)
  refine j_call hcl rfl (by (repeat' (first | exact Pick.here | apply Pick.there | apply Picks.cons | exact Picks.nil))) (fun F' hF' => tab.ext hF') ?_
  rintro _ _ ⟨rfl, ps2, kA2, kc2, book2, m2, w1, w2, w3, w4, rfl⟩
  unfold BL
  simp only [List.cons_append, List.nil_append]
  repeat (first | refine j_addN (by omega) rfl ?_ | refine j_subN (by omega) rfl ?_ | refine j_addI (by omega) (by omega) rfl ?_ | refine j_subI (by omega) (by omega) rfl ?_ | refine j_op rfl ?_ | refine j_pickF rfl ?_ | refine j_pickT rfl ?_ | refine j_region ?_ | refine j_nil ?_ | refine j_then ?_ | refine j_mono (by assumption) ?_ | (refine j_seq fun K hK => ?_) | refine j_gdo rfl ?_ | refine j_gskip_t rfl ?_ | refine j_gskip_f rfl ?_ | refine j_gskip_u rfl ?_ | refine j_gspec rfl ?_ | refine j_block ?_ | refine j_ret ?_ | refine j_then_ret ?_ | refine j_in_ret ?_ | refine j_in_normal ?_ | refine j_exit ?_ | refine j_then_exit ?_ | refine j_in_exit ?_ | refine j_in_past ?_ | refine j_skip ?_ | refine j_cond_t ?_ | refine j_cond_f ?_ | refine j_store rfl ?_ | refine j_still_nil ?_)
  (first | refine j_done (.inl rfl) ?_ | refine j_done (.inr rfl) ?_ | refine j_doneM (.inl rfl) ?_ | refine j_doneM (.inr rfl) ?_)
  refine ⟨_, ⟨rfl, ps2, kA2, kc2, book2, m2, w1, w2, w3, by omega, rfl⟩, ?_⟩
  unfold BL
  exact (LE.sub (by (repeat' (first | exact Pick.here | apply Pick.there | apply Picks.cons | exact Picks.nil))))
theorem plays_k6 (at_ a bb bucket : Int) (name tag : ByteArray) (st : Sl PObj × Sl Int) :
    Spec Tryd.prog 4 [ptr b 0, opV ⟨6, at_, a, bb, bucket, name, tag, st⟩] (BL b ps kA kc book m) (PlR st) (PlQ b (book.length + 3)) := by
  have hpl := place_spec at_
  have hk := plF_lt at_
  generalize plF at_ = k at hpl hk
  have hcl := asks_count b ps kA kc book m hp hbk hm k hk at_ a bb bucket name tag st
  unfold ptr opV BL at *
  refine spec_of Tryd.func4 rfl Tryd.ntmps4 fun F hF => ?_
  obtain ⟨tab, ro1, ro2⟩ := hF
  have hx := List.getElem?_eq_getElem (show k < ps.length by omega)
  generalize ps[k] = x at hx
  obtain ⟨A, R, s⟩ := x
  have l1 : L3 (own1 ps) := ⟨by rw [List.length_map]; exact hp⟩
  have l2 : L3 (ref1 ps) := ⟨by rw [List.length_map]; exact hp⟩
  have hk3 : Ft (k < 3) := ⟨hk⟩
  have ha1 := own1_at hx
  have ha2 := ref1_at hx
  have q1 : Dec ((6 : Int) = 1) false := dec_f (by omega)
  have q2 : Dec ((6 : Int) = 2) false := dec_f (by omega)
  have q3 : Dec ((6 : Int) = 3) false := dec_f (by omega)
  have q4 : Dec ((6 : Int) = 4) false := dec_f (by omega)
  have q5 : Dec ((6 : Int) = 5) false := dec_f (by omega)
  have q6 : Dec ((6 : Int) = 6) true := dec_t rfl
  refine j_seq fun K hK => ?_
  refine j_region ?_
  refine j_box rfl fun b4 => ?_
  repeat (first | refine j_addN (by omega) rfl ?_ | refine j_subN (by omega) rfl ?_ | refine j_addI (by omega) (by omega) rfl ?_ | refine j_subI (by omega) (by omega) rfl ?_ | refine j_op rfl ?_ | refine j_pickF rfl ?_ | refine j_pickT rfl ?_ | refine j_region ?_ | refine j_nil ?_ | refine j_then ?_ | refine j_mono (by assumption) ?_ | (refine j_seq fun K hK => ?_) | refine j_gdo rfl ?_ | refine j_gskip_t rfl ?_ | refine j_gskip_f rfl ?_ | refine j_gskip_u rfl ?_ | refine j_gspec rfl ?_ | refine j_block ?_ | refine j_ret ?_ | refine j_then_ret ?_ | refine j_in_ret ?_ | refine j_in_normal ?_ | refine j_exit ?_ | refine j_then_exit ?_ | refine j_in_exit ?_ | refine j_in_past ?_ | refine j_skip ?_ | refine j_cond_t ?_ | refine j_cond_f ?_ | refine j_store rfl ?_ | refine j_still_nil ?_)
  refine j_call hpl rfl .nil (fun _ _ => trivial) ?_
  rintro _ _ ⟨rfl, rfl⟩
  simp only [List.cons_append, List.nil_append]
  repeat (first | refine j_addN (by omega) rfl ?_ | refine j_subN (by omega) rfl ?_ | refine j_addI (by omega) (by omega) rfl ?_ | refine j_subI (by omega) (by omega) rfl ?_ | refine j_op rfl ?_ | refine j_pickF rfl ?_ | refine j_pickT rfl ?_ | refine j_region ?_ | refine j_nil ?_ | refine j_then ?_ | refine j_mono (by assumption) ?_ | (refine j_seq fun K hK => ?_) | refine j_gdo rfl ?_ | refine j_gskip_t rfl ?_ | refine j_gskip_f rfl ?_ | refine j_gskip_u rfl ?_ | refine j_gspec rfl ?_ | refine j_block ?_ | refine j_ret ?_ | refine j_then_ret ?_ | refine j_in_ret ?_ | refine j_in_normal ?_ | refine j_exit ?_ | refine j_then_exit ?_ | refine j_in_exit ?_ | refine j_in_past ?_ | refine j_skip ?_ | refine j_cond_t ?_ | refine j_cond_f ?_ | refine j_store rfl ?_ | refine j_still_nil ?_)
  refine j_call hcl rfl (by (repeat' (first | exact Pick.here | apply Pick.there | apply Picks.cons | exact Picks.nil))) (fun F' hF' => trivial) ?_
  rintro _ _ ⟨rfl, ps2, kA2, kc2, book2, m2, w1, w2, w3, w4, rfl⟩
  unfold BL
  simp only [List.cons_append, List.nil_append]
  repeat (first | refine j_addN (by omega) rfl ?_ | refine j_subN (by omega) rfl ?_ | refine j_addI (by omega) (by omega) rfl ?_ | refine j_subI (by omega) (by omega) rfl ?_ | refine j_op rfl ?_ | refine j_pickF rfl ?_ | refine j_pickT rfl ?_ | refine j_region ?_ | refine j_nil ?_ | refine j_then ?_ | refine j_mono (by assumption) ?_ | (refine j_seq fun K hK => ?_) | refine j_gdo rfl ?_ | refine j_gskip_t rfl ?_ | refine j_gskip_f rfl ?_ | refine j_gskip_u rfl ?_ | refine j_gspec rfl ?_ | refine j_block ?_ | refine j_ret ?_ | refine j_then_ret ?_ | refine j_in_ret ?_ | refine j_in_normal ?_ | refine j_exit ?_ | refine j_then_exit ?_ | refine j_in_exit ?_ | refine j_in_past ?_ | refine j_skip ?_ | refine j_cond_t ?_ | refine j_cond_f ?_ | refine j_store rfl ?_ | refine j_still_nil ?_)
  (first | refine j_done (.inl rfl) ?_ | refine j_done (.inr rfl) ?_ | refine j_doneM (.inl rfl) ?_ | refine j_doneM (.inr rfl) ?_)
  refine ⟨_, ⟨rfl, ps2, kA2, kc2, book2, m2, w1, w2, w3, by omega, rfl⟩, ?_⟩
  unfold BL
  exact (LE.sub (by (repeat' (first | exact Pick.here | apply Pick.there | apply Picks.cons | exact Picks.nil))))
theorem plays_k7 (at_ a bb bucket : Int) (name tag : ByteArray) (st : Sl PObj × Sl Int) :
    Spec Tryd.prog 4 [ptr b 0, opV ⟨7, at_, a, bb, bucket, name, tag, st⟩] (BL b ps kA kc book m) (PlR st) (PlQ b (book.length + 3)) := by
  have hpl := place_spec at_
  have hk := plF_lt at_
  generalize plF at_ = k at hpl hk
  have hcl := asks_at b ps kA kc book m hp hbk hm k hk at_ a bb bucket name tag st
  unfold ptr opV BL at *
  refine spec_of Tryd.func4 rfl Tryd.ntmps4 fun F hF => ?_
  obtain ⟨tab, ro1, ro2⟩ := hF
  have hx := List.getElem?_eq_getElem (show k < ps.length by omega)
  generalize ps[k] = x at hx
  obtain ⟨A, R, s⟩ := x
  have l1 : L3 (own1 ps) := ⟨by rw [List.length_map]; exact hp⟩
  have l2 : L3 (ref1 ps) := ⟨by rw [List.length_map]; exact hp⟩
  have hk3 : Ft (k < 3) := ⟨hk⟩
  have ha1 := own1_at hx
  have ha2 := ref1_at hx
  have q1 : Dec ((7 : Int) = 1) false := dec_f (by omega)
  have q2 : Dec ((7 : Int) = 2) false := dec_f (by omega)
  have q3 : Dec ((7 : Int) = 3) false := dec_f (by omega)
  have q4 : Dec ((7 : Int) = 4) false := dec_f (by omega)
  have q5 : Dec ((7 : Int) = 5) false := dec_f (by omega)
  have q6 : Dec ((7 : Int) = 6) false := dec_f (by omega)
  have q7 : Dec ((7 : Int) = 7) true := dec_t rfl
  refine j_seq fun K hK => ?_
  refine j_region ?_
  refine j_box rfl fun b4 => ?_
  repeat (first | refine j_addN (by omega) rfl ?_ | refine j_subN (by omega) rfl ?_ | refine j_addI (by omega) (by omega) rfl ?_ | refine j_subI (by omega) (by omega) rfl ?_ | refine j_op rfl ?_ | refine j_pickF rfl ?_ | refine j_pickT rfl ?_ | refine j_region ?_ | refine j_nil ?_ | refine j_then ?_ | refine j_mono (by assumption) ?_ | (refine j_seq fun K hK => ?_) | refine j_gdo rfl ?_ | refine j_gskip_t rfl ?_ | refine j_gskip_f rfl ?_ | refine j_gskip_u rfl ?_ | refine j_gspec rfl ?_ | refine j_block ?_ | refine j_ret ?_ | refine j_then_ret ?_ | refine j_in_ret ?_ | refine j_in_normal ?_ | refine j_exit ?_ | refine j_then_exit ?_ | refine j_in_exit ?_ | refine j_in_past ?_ | refine j_skip ?_ | refine j_cond_t ?_ | refine j_cond_f ?_ | refine j_store rfl ?_ | refine j_still_nil ?_)
  refine j_call hpl rfl .nil (fun _ _ => trivial) ?_
  rintro _ _ ⟨rfl, rfl⟩
  simp only [List.cons_append, List.nil_append]
  repeat (first | refine j_addN (by omega) rfl ?_ | refine j_subN (by omega) rfl ?_ | refine j_addI (by omega) (by omega) rfl ?_ | refine j_subI (by omega) (by omega) rfl ?_ | refine j_op rfl ?_ | refine j_pickF rfl ?_ | refine j_pickT rfl ?_ | refine j_region ?_ | refine j_nil ?_ | refine j_then ?_ | refine j_mono (by assumption) ?_ | (refine j_seq fun K hK => ?_) | refine j_gdo rfl ?_ | refine j_gskip_t rfl ?_ | refine j_gskip_f rfl ?_ | refine j_gskip_u rfl ?_ | refine j_gspec rfl ?_ | refine j_block ?_ | refine j_ret ?_ | refine j_then_ret ?_ | refine j_in_ret ?_ | refine j_in_normal ?_ | refine j_exit ?_ | refine j_then_exit ?_ | refine j_in_exit ?_ | refine j_in_past ?_ | refine j_skip ?_ | refine j_cond_t ?_ | refine j_cond_f ?_ | refine j_store rfl ?_ | refine j_still_nil ?_)
  refine j_call hcl rfl (by (repeat' (first | exact Pick.here | apply Pick.there | apply Picks.cons | exact Picks.nil))) (fun F' hF' => trivial) ?_
  rintro _ _ ⟨rfl, ps2, kA2, kc2, book2, m2, w1, w2, w3, w4, rfl⟩
  unfold BL
  simp only [List.cons_append, List.nil_append]
  repeat (first | refine j_addN (by omega) rfl ?_ | refine j_subN (by omega) rfl ?_ | refine j_addI (by omega) (by omega) rfl ?_ | refine j_subI (by omega) (by omega) rfl ?_ | refine j_op rfl ?_ | refine j_pickF rfl ?_ | refine j_pickT rfl ?_ | refine j_region ?_ | refine j_nil ?_ | refine j_then ?_ | refine j_mono (by assumption) ?_ | (refine j_seq fun K hK => ?_) | refine j_gdo rfl ?_ | refine j_gskip_t rfl ?_ | refine j_gskip_f rfl ?_ | refine j_gskip_u rfl ?_ | refine j_gspec rfl ?_ | refine j_block ?_ | refine j_ret ?_ | refine j_then_ret ?_ | refine j_in_ret ?_ | refine j_in_normal ?_ | refine j_exit ?_ | refine j_then_exit ?_ | refine j_in_exit ?_ | refine j_in_past ?_ | refine j_skip ?_ | refine j_cond_t ?_ | refine j_cond_f ?_ | refine j_store rfl ?_ | refine j_still_nil ?_)
  (first | refine j_done (.inl rfl) ?_ | refine j_done (.inr rfl) ?_ | refine j_doneM (.inl rfl) ?_ | refine j_doneM (.inr rfl) ?_)
  refine ⟨_, ⟨rfl, ps2, kA2, kc2, book2, m2, w1, w2, w3, by omega, rfl⟩, ?_⟩
  unfold BL
  exact (LE.sub (by (repeat' (first | exact Pick.here | apply Pick.there | apply Picks.cons | exact Picks.nil))))
theorem plays_k8 (at_ a bb bucket : Int) (name tag : ByteArray) (st : Sl PObj × Sl Int) :
    Spec Tryd.prog 4 [ptr b 0, opV ⟨8, at_, a, bb, bucket, name, tag, st⟩] (BL b ps kA kc book m) (PlR st) (PlQ b (book.length + 3)) := by
  have hpl := place_spec at_
  have hk := plF_lt at_
  generalize plF at_ = k at hpl hk
  have hcl := asks_owner b ps kA kc book m hp hbk hm k hk at_ a bb bucket name tag st
  unfold ptr opV BL at *
  refine spec_of Tryd.func4 rfl Tryd.ntmps4 fun F hF => ?_
  obtain ⟨tab, ro1, ro2⟩ := hF
  have hx := List.getElem?_eq_getElem (show k < ps.length by omega)
  generalize ps[k] = x at hx
  obtain ⟨A, R, s⟩ := x
  have l1 : L3 (own1 ps) := ⟨by rw [List.length_map]; exact hp⟩
  have l2 : L3 (ref1 ps) := ⟨by rw [List.length_map]; exact hp⟩
  have hk3 : Ft (k < 3) := ⟨hk⟩
  have ha1 := own1_at hx
  have ha2 := ref1_at hx
  have q1 : Dec ((8 : Int) = 1) false := dec_f (by omega)
  have q2 : Dec ((8 : Int) = 2) false := dec_f (by omega)
  have q3 : Dec ((8 : Int) = 3) false := dec_f (by omega)
  have q4 : Dec ((8 : Int) = 4) false := dec_f (by omega)
  have q5 : Dec ((8 : Int) = 5) false := dec_f (by omega)
  have q6 : Dec ((8 : Int) = 6) false := dec_f (by omega)
  have q7 : Dec ((8 : Int) = 7) false := dec_f (by omega)
  have q8 : Dec ((8 : Int) = 8) true := dec_t rfl
  refine j_seq fun K hK => ?_
  refine j_region ?_
  refine j_box rfl fun b4 => ?_
  repeat (first | refine j_addN (by omega) rfl ?_ | refine j_subN (by omega) rfl ?_ | refine j_addI (by omega) (by omega) rfl ?_ | refine j_subI (by omega) (by omega) rfl ?_ | refine j_op rfl ?_ | refine j_pickF rfl ?_ | refine j_pickT rfl ?_ | refine j_region ?_ | refine j_nil ?_ | refine j_then ?_ | refine j_mono (by assumption) ?_ | (refine j_seq fun K hK => ?_) | refine j_gdo rfl ?_ | refine j_gskip_t rfl ?_ | refine j_gskip_f rfl ?_ | refine j_gskip_u rfl ?_ | refine j_gspec rfl ?_ | refine j_block ?_ | refine j_ret ?_ | refine j_then_ret ?_ | refine j_in_ret ?_ | refine j_in_normal ?_ | refine j_exit ?_ | refine j_then_exit ?_ | refine j_in_exit ?_ | refine j_in_past ?_ | refine j_skip ?_ | refine j_cond_t ?_ | refine j_cond_f ?_ | refine j_store rfl ?_ | refine j_still_nil ?_)
  refine j_call hpl rfl .nil (fun _ _ => trivial) ?_
  rintro _ _ ⟨rfl, rfl⟩
  simp only [List.cons_append, List.nil_append]
  repeat (first | refine j_addN (by omega) rfl ?_ | refine j_subN (by omega) rfl ?_ | refine j_addI (by omega) (by omega) rfl ?_ | refine j_subI (by omega) (by omega) rfl ?_ | refine j_op rfl ?_ | refine j_pickF rfl ?_ | refine j_pickT rfl ?_ | refine j_region ?_ | refine j_nil ?_ | refine j_then ?_ | refine j_mono (by assumption) ?_ | (refine j_seq fun K hK => ?_) | refine j_gdo rfl ?_ | refine j_gskip_t rfl ?_ | refine j_gskip_f rfl ?_ | refine j_gskip_u rfl ?_ | refine j_gspec rfl ?_ | refine j_block ?_ | refine j_ret ?_ | refine j_then_ret ?_ | refine j_in_ret ?_ | refine j_in_normal ?_ | refine j_exit ?_ | refine j_then_exit ?_ | refine j_in_exit ?_ | refine j_in_past ?_ | refine j_skip ?_ | refine j_cond_t ?_ | refine j_cond_f ?_ | refine j_store rfl ?_ | refine j_still_nil ?_)
  refine j_call hcl rfl (by (repeat' (first | exact Pick.here | apply Pick.there | apply Picks.cons | exact Picks.nil))) (fun F' hF' => trivial) ?_
  rintro _ _ ⟨rfl, ps2, kA2, kc2, book2, m2, w1, w2, w3, w4, rfl⟩
  unfold BL
  simp only [List.cons_append, List.nil_append]
  repeat (first | refine j_addN (by omega) rfl ?_ | refine j_subN (by omega) rfl ?_ | refine j_addI (by omega) (by omega) rfl ?_ | refine j_subI (by omega) (by omega) rfl ?_ | refine j_op rfl ?_ | refine j_pickF rfl ?_ | refine j_pickT rfl ?_ | refine j_region ?_ | refine j_nil ?_ | refine j_then ?_ | refine j_mono (by assumption) ?_ | (refine j_seq fun K hK => ?_) | refine j_gdo rfl ?_ | refine j_gskip_t rfl ?_ | refine j_gskip_f rfl ?_ | refine j_gskip_u rfl ?_ | refine j_gspec rfl ?_ | refine j_block ?_ | refine j_ret ?_ | refine j_then_ret ?_ | refine j_in_ret ?_ | refine j_in_normal ?_ | refine j_exit ?_ | refine j_then_exit ?_ | refine j_in_exit ?_ | refine j_in_past ?_ | refine j_skip ?_ | refine j_cond_t ?_ | refine j_cond_f ?_ | refine j_store rfl ?_ | refine j_still_nil ?_)
  (first | refine j_done (.inl rfl) ?_ | refine j_done (.inr rfl) ?_ | refine j_doneM (.inl rfl) ?_ | refine j_doneM (.inr rfl) ?_)
  refine ⟨_, ⟨rfl, ps2, kA2, kc2, book2, m2, w1, w2, w3, by omega, rfl⟩, ?_⟩
  unfold BL
  exact (LE.sub (by (repeat' (first | exact Pick.here | apply Pick.there | apply Picks.cons | exact Picks.nil))))
theorem plays_k9 (at_ a bb bucket : Int) (name tag : ByteArray) (st : Sl PObj × Sl Int) :
    Spec Tryd.prog 4 [ptr b 0, opV ⟨9, at_, a, bb, bucket, name, tag, st⟩] (BL b ps kA kc book m) (PlR st) (PlQ b (book.length + 3)) := by
  have hpl := place_spec at_
  have hk := plF_lt at_
  generalize plF at_ = k at hpl hk
  have hcl := asks_name b ps kA kc book m hp hbk hm k hk at_ a bb bucket name tag st
  unfold ptr opV BL at *
  refine spec_of Tryd.func4 rfl Tryd.ntmps4 fun F hF => ?_
  obtain ⟨tab, ro1, ro2⟩ := hF
  have hx := List.getElem?_eq_getElem (show k < ps.length by omega)
  generalize ps[k] = x at hx
  obtain ⟨A, R, s⟩ := x
  have l1 : L3 (own1 ps) := ⟨by rw [List.length_map]; exact hp⟩
  have l2 : L3 (ref1 ps) := ⟨by rw [List.length_map]; exact hp⟩
  have hk3 : Ft (k < 3) := ⟨hk⟩
  have ha1 := own1_at hx
  have ha2 := ref1_at hx
  have q1 : Dec ((9 : Int) = 1) false := dec_f (by omega)
  have q2 : Dec ((9 : Int) = 2) false := dec_f (by omega)
  have q3 : Dec ((9 : Int) = 3) false := dec_f (by omega)
  have q4 : Dec ((9 : Int) = 4) false := dec_f (by omega)
  have q5 : Dec ((9 : Int) = 5) false := dec_f (by omega)
  have q6 : Dec ((9 : Int) = 6) false := dec_f (by omega)
  have q7 : Dec ((9 : Int) = 7) false := dec_f (by omega)
  have q8 : Dec ((9 : Int) = 8) false := dec_f (by omega)
  have q9 : Dec ((9 : Int) = 9) true := dec_t rfl
  refine j_seq fun K hK => ?_
  refine j_region ?_
  refine j_box rfl fun b4 => ?_
  repeat (first | refine j_addN (by omega) rfl ?_ | refine j_subN (by omega) rfl ?_ | refine j_addI (by omega) (by omega) rfl ?_ | refine j_subI (by omega) (by omega) rfl ?_ | refine j_op rfl ?_ | refine j_pickF rfl ?_ | refine j_pickT rfl ?_ | refine j_region ?_ | refine j_nil ?_ | refine j_then ?_ | refine j_mono (by assumption) ?_ | (refine j_seq fun K hK => ?_) | refine j_gdo rfl ?_ | refine j_gskip_t rfl ?_ | refine j_gskip_f rfl ?_ | refine j_gskip_u rfl ?_ | refine j_gspec rfl ?_ | refine j_block ?_ | refine j_ret ?_ | refine j_then_ret ?_ | refine j_in_ret ?_ | refine j_in_normal ?_ | refine j_exit ?_ | refine j_then_exit ?_ | refine j_in_exit ?_ | refine j_in_past ?_ | refine j_skip ?_ | refine j_cond_t ?_ | refine j_cond_f ?_ | refine j_store rfl ?_ | refine j_still_nil ?_)
  refine j_call hpl rfl .nil (fun _ _ => trivial) ?_
  rintro _ _ ⟨rfl, rfl⟩
  simp only [List.cons_append, List.nil_append]
  repeat (first | refine j_addN (by omega) rfl ?_ | refine j_subN (by omega) rfl ?_ | refine j_addI (by omega) (by omega) rfl ?_ | refine j_subI (by omega) (by omega) rfl ?_ | refine j_op rfl ?_ | refine j_pickF rfl ?_ | refine j_pickT rfl ?_ | refine j_region ?_ | refine j_nil ?_ | refine j_then ?_ | refine j_mono (by assumption) ?_ | (refine j_seq fun K hK => ?_) | refine j_gdo rfl ?_ | refine j_gskip_t rfl ?_ | refine j_gskip_f rfl ?_ | refine j_gskip_u rfl ?_ | refine j_gspec rfl ?_ | refine j_block ?_ | refine j_ret ?_ | refine j_then_ret ?_ | refine j_in_ret ?_ | refine j_in_normal ?_ | refine j_exit ?_ | refine j_then_exit ?_ | refine j_in_exit ?_ | refine j_in_past ?_ | refine j_skip ?_ | refine j_cond_t ?_ | refine j_cond_f ?_ | refine j_store rfl ?_ | refine j_still_nil ?_)
  refine j_call hcl rfl (by (repeat' (first | exact Pick.here | apply Pick.there | apply Picks.cons | exact Picks.nil))) (fun F' hF' => trivial) ?_
  rintro _ _ ⟨rfl, ps2, kA2, kc2, book2, m2, w1, w2, w3, w4, rfl⟩
  unfold BL
  simp only [List.cons_append, List.nil_append]
  repeat (first | refine j_addN (by omega) rfl ?_ | refine j_subN (by omega) rfl ?_ | refine j_addI (by omega) (by omega) rfl ?_ | refine j_subI (by omega) (by omega) rfl ?_ | refine j_op rfl ?_ | refine j_pickF rfl ?_ | refine j_pickT rfl ?_ | refine j_region ?_ | refine j_nil ?_ | refine j_then ?_ | refine j_mono (by assumption) ?_ | (refine j_seq fun K hK => ?_) | refine j_gdo rfl ?_ | refine j_gskip_t rfl ?_ | refine j_gskip_f rfl ?_ | refine j_gskip_u rfl ?_ | refine j_gspec rfl ?_ | refine j_block ?_ | refine j_ret ?_ | refine j_then_ret ?_ | refine j_in_ret ?_ | refine j_in_normal ?_ | refine j_exit ?_ | refine j_then_exit ?_ | refine j_in_exit ?_ | refine j_in_past ?_ | refine j_skip ?_ | refine j_cond_t ?_ | refine j_cond_f ?_ | refine j_store rfl ?_ | refine j_still_nil ?_)
  (first | refine j_done (.inl rfl) ?_ | refine j_done (.inr rfl) ?_ | refine j_doneM (.inl rfl) ?_ | refine j_doneM (.inr rfl) ?_)
  refine ⟨_, ⟨rfl, ps2, kA2, kc2, book2, m2, w1, w2, w3, by omega, rfl⟩, ?_⟩
  unfold BL
  exact (LE.sub (by (repeat' (first | exact Pick.here | apply Pick.there | apply Picks.cons | exact Picks.nil))))
theorem plays_other (kind : Int) (hkd : ¬ (1 ≤ kind ∧ kind ≤ 14)) (at_ a bb bucket : Int) (name tag : ByteArray) (st : Sl PObj × Sl Int) :
    Spec Tryd.prog 4 [ptr b 0, opV ⟨kind, at_, a, bb, bucket, name, tag, st⟩] (BL b ps kA kc book m) (PlR st) (PlQ b (book.length + 3)) := by
  have hpl := place_spec at_
  have hk := plF_lt at_
  generalize plF at_ = k at hpl hk
  unfold ptr opV BL at *
  refine spec_of Tryd.func4 rfl Tryd.ntmps4 fun F hF => ?_
  obtain ⟨tab, ro1, ro2⟩ := hF
  have hx := List.getElem?_eq_getElem (show k < ps.length by omega)
  generalize ps[k] = x at hx
  obtain ⟨A, R, s⟩ := x
  have l1 : L3 (own1 ps) := ⟨by rw [List.length_map]; exact hp⟩
  have l2 : L3 (ref1 ps) := ⟨by rw [List.length_map]; exact hp⟩
  have hk3 : Ft (k < 3) := ⟨hk⟩
  have ha1 := own1_at hx
  have ha2 := ref1_at hx
  have q1 : Dec (kind = 1) false := dec_f (by omega)
  have q2 : Dec (kind = 2) false := dec_f (by omega)
  have q3 : Dec (kind = 3) false := dec_f (by omega)
  have q4 : Dec (kind = 4) false := dec_f (by omega)
  have q5 : Dec (kind = 5) false := dec_f (by omega)
  have q6 : Dec (kind = 6) false := dec_f (by omega)
  have q7 : Dec (kind = 7) false := dec_f (by omega)
  have q8 : Dec (kind = 8) false := dec_f (by omega)
  have q9 : Dec (kind = 9) false := dec_f (by omega)
  have q10 : Dec (kind = 10) false := dec_f (by omega)
  have q11 : Dec (kind = 11) false := dec_f (by omega)
  have q12 : Dec (kind = 12) false := dec_f (by omega)
  have q13 : Dec (kind = 13) false := dec_f (by omega)
  have q14 : Dec (kind = 14) false := dec_f (by omega)
  refine j_seq fun K hK => ?_
  refine j_region ?_
  refine j_box rfl fun b4 => ?_
  repeat (first | refine j_addN (by omega) rfl ?_ | refine j_subN (by omega) rfl ?_ | refine j_addI (by omega) (by omega) rfl ?_ | refine j_subI (by omega) (by omega) rfl ?_ | refine j_op rfl ?_ | refine j_pickF rfl ?_ | refine j_pickT rfl ?_ | refine j_region ?_ | refine j_nil ?_ | refine j_then ?_ | refine j_mono (by assumption) ?_ | (refine j_seq fun K hK => ?_) | refine j_gdo rfl ?_ | refine j_gskip_t rfl ?_ | refine j_gskip_f rfl ?_ | refine j_gskip_u rfl ?_ | refine j_gspec rfl ?_ | refine j_block ?_ | refine j_ret ?_ | refine j_then_ret ?_ | refine j_in_ret ?_ | refine j_in_normal ?_ | refine j_exit ?_ | refine j_then_exit ?_ | refine j_in_exit ?_ | refine j_in_past ?_ | refine j_skip ?_ | refine j_cond_t ?_ | refine j_cond_f ?_ | refine j_store rfl ?_ | refine j_still_nil ?_)
  refine j_call hpl rfl .nil (fun _ _ => trivial) ?_
  rintro _ _ ⟨rfl, rfl⟩
  simp only [List.cons_append, List.nil_append]
  repeat (first | refine j_addN (by omega) rfl ?_ | refine j_subN (by omega) rfl ?_ | refine j_addI (by omega) (by omega) rfl ?_ | refine j_subI (by omega) (by omega) rfl ?_ | refine j_op rfl ?_ | refine j_pickF rfl ?_ | refine j_pickT rfl ?_ | refine j_region ?_ | refine j_nil ?_ | refine j_then ?_ | refine j_mono (by assumption) ?_ | (refine j_seq fun K hK => ?_) | refine j_gdo rfl ?_ | refine j_gskip_t rfl ?_ | refine j_gskip_f rfl ?_ | refine j_gskip_u rfl ?_ | refine j_gspec rfl ?_ | refine j_block ?_ | refine j_ret ?_ | refine j_then_ret ?_ | refine j_in_ret ?_ | refine j_in_normal ?_ | refine j_exit ?_ | refine j_then_exit ?_ | refine j_in_exit ?_ | refine j_in_past ?_ | refine j_skip ?_ | refine j_cond_t ?_ | refine j_cond_f ?_ | refine j_store rfl ?_ | refine j_still_nil ?_)
  (first | refine j_done (.inl rfl) ?_ | refine j_done (.inr rfl) ?_ | refine j_doneM (.inl rfl) ?_ | refine j_doneM (.inr rfl) ?_)
  refine ⟨_, ⟨rfl, ps, kA, kc, book, m, hp, hbk, hm, by omega, rfl⟩, ?_⟩
  unfold BL
  exact (LE.sub (by (repeat' (first | exact Pick.here | apply Pick.there | apply Picks.cons | exact Picks.nil))))
theorem plays_spec (o : POp) (h1 : o.st.1.xs.length * 48 ≤ 140737488351232) (h2 : o.st.2.xs.length * 8 ≤ 140737488351232) (hbl : book.length + 3 ≤ 100000000) :
    Spec Tryd.prog 4 [ptr b 0, opV o] (BL b ps kA kc book m) (PlR o.st) (PlQ b (book.length + 3)) := by
  obtain ⟨kind, at_, a, bb, bucket, name, tag, st⟩ := o
  by_cases hkd : 1 ≤ kind ∧ kind ≤ 14
  · have hc : kind = 1 ∨ kind = 2 ∨ kind = 3 ∨ kind = 4 ∨ kind = 5 ∨ kind = 6 ∨ kind = 7 ∨ kind = 8 ∨ kind = 9 ∨ kind = 10 ∨ kind = 11 ∨ kind = 12 ∨ kind = 13 ∨ kind = 14 := by omega
    rcases hc with rfl | rfl | rfl | rfl | rfl | rfl | rfl | rfl | rfl | rfl | rfl | rfl | rfl | rfl
    · exact plays_k1 b ps kA kc book m hp hbk hm at_ a bb bucket name tag st
    · exact plays_k2 b ps kA kc book m hp hbk hm at_ a bb bucket name tag st h1 h2
    · exact plays_k3 b ps kA kc book m hp hbk hm at_ a bb bucket name tag st
    · exact plays_k4 b ps kA kc book m hp hbk hm at_ a bb bucket name tag st
    · exact plays_k5 b ps kA kc book m hp hbk hm at_ a bb bucket name tag st hbl
    · exact plays_k6 b ps kA kc book m hp hbk hm at_ a bb bucket name tag st
    · exact plays_k7 b ps kA kc book m hp hbk hm at_ a bb bucket name tag st
    · exact plays_k8 b ps kA kc book m hp hbk hm at_ a bb bucket name tag st
    · exact plays_k9 b ps kA kc book m hp hbk hm at_ a bb bucket name tag st
    · exact ((plays_pop b ps kA kc book m hp hbk hm at_ a bb bucket name tag st).mono fun v L h => h.more (by omega)).moreR fun _ _ => trivial
    · exact ((plays_push b ps kA kc book m hp hbk hm at_ a bb bucket name tag st).mono fun v L h => h.more (by omega)).moreR fun _ _ => trivial
    · exact ((plays_assign b ps kA kc book m hp hbk hm at_ a bb bucket name tag st).mono fun v L h => h.more (by omega)).moreR fun _ _ => trivial
    · exact ((plays_release b ps kA kc book m hp hbk hm at_ a bb bucket name tag st).mono fun v L h => h.more (by omega)).moreR fun _ _ => trivial
    · exact ((plays_set b ps kA kc book m hp hbk hm at_ a bb bucket name tag st).mono fun v L h => h.more (by omega)).moreR fun _ _ => trivial
  · exact plays_other b ps kA kc book m hp hbk hm kind hkd at_ a bb bucket name tag st
end
end Go.Proofs.YtjmicpkinflofaaDoor.S
