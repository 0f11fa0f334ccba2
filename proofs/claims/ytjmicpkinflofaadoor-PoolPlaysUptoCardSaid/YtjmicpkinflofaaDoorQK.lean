/- pool: news -/
import Derived.Test.YtjmicpkinflofaaDoorQH
namespace Go.Proofs.YtjmicpkinflofaaDoor.S
open Go.RowKit
set_option linter.unusedVariables false
set_option linter.unusedSimpArgs false
set_option maxRecDepth 100000
set_option maxHeartbeats 4000000
set_option synthInstance.maxHeartbeats 400000
set_option synthInstance.maxSize 4000
attribute [local irreducible] wpList Code.wp Exit.then Exit.inBlock stillR bodyPost hR J Back Mid
section
variable (b : Nat) (ps : List Pc) (kA : Option Addr) (kc : Nat) (book : List Kp) (m : Int) (hp : ps.length = 3) (hbk : ∀ k ∈ book, KpOk k) (hm : rngI m) (k : Nat) (hk : k < 3)
include hp hbk hm hk
theorem news_new (at_ a bb bucket : Int) (name tag : ByteArray) (st : Sl PObj × Sl Int) :
    Spec Tryd.prog 7 [ptr b 0, opV ⟨1, at_, a, bb, bucket, name, tag, st⟩, .int .i64 (k : Int)] (BL b ps kA kc book m) TT (PlQ b book.length) := by
  unfold ptr opV BL
  refine spec_of Tryd.func7 rfl Tryd.ntmps7 fun F hF => ?_
  have hx := List.getElem?_eq_getElem (show k < ps.length by omega)
  generalize ps[k] = x at hx
  obtain ⟨A, R, s⟩ := x
  have l1 : L3 (own1 ps) := ⟨by rw [List.length_map]; exact hp⟩
  have l2 : L3 (ref1 ps) := ⟨by rw [List.length_map]; exact hp⟩
  have hk3 : Ft (k < 3) := ⟨hk⟩
  have d1 : Dec ((1 : Int) = 1) true := dec_t rfl
  have hn := new_o a bb
  have hrn := rnew_o a bb
  generalize newF a bb = r at *
  refine j_le (LE.pick (c := allR placeR ps) (by (repeat' (first | exact Pick.here | apply Pick.there | apply Picks.cons | exact Picks.nil))) (LE.pcAt hx)) ?_
  refine j_seq fun K hK => ?_
  refine j_region ?_
  refine j_box rfl fun b4 => ?_
  repeat (first | refine j_addN (by omega) rfl ?_ | refine j_subN (by omega) rfl ?_ | refine j_addI (by omega) (by omega) rfl ?_ | refine j_subI (by omega) (by omega) rfl ?_ | refine j_op rfl ?_ | refine j_pickF rfl ?_ | refine j_pickT rfl ?_ | refine j_region ?_ | refine j_nil ?_ | refine j_then ?_ | refine j_mono (by assumption) ?_ | (refine j_seq fun K hK => ?_) | refine j_gdo rfl ?_ | refine j_gskip_t rfl ?_ | refine j_gskip_f rfl ?_ | refine j_gskip_u rfl ?_ | refine j_gspec rfl ?_ | refine j_block ?_ | refine j_ret ?_ | refine j_then_ret ?_ | refine j_in_ret ?_ | refine j_in_normal ?_ | refine j_exit ?_ | refine j_then_exit ?_ | refine j_in_exit ?_ | refine j_in_past ?_ | refine j_skip ?_ | refine j_cond_t ?_ | refine j_cond_f ?_ | refine j_store rfl ?_ | refine j_still_nil ?_)
  refine j_call hn rfl .nil (fun _ _ => trivial) ?_
  rintro _ _ ⟨A1, rfl, rfl⟩
  simp only [List.cons_append, List.nil_append]
  repeat (first | refine j_addN (by omega) rfl ?_ | refine j_subN (by omega) rfl ?_ | refine j_addI (by omega) (by omega) rfl ?_ | refine j_subI (by omega) (by omega) rfl ?_ | refine j_op rfl ?_ | refine j_pickF rfl ?_ | refine j_pickT rfl ?_ | refine j_region ?_ | refine j_nil ?_ | refine j_then ?_ | refine j_mono (by assumption) ?_ | (refine j_seq fun K hK => ?_) | refine j_gdo rfl ?_ | refine j_gskip_t rfl ?_ | refine j_gskip_f rfl ?_ | refine j_gskip_u rfl ?_ | refine j_gspec rfl ?_ | refine j_block ?_ | refine j_ret ?_ | refine j_then_ret ?_ | refine j_in_ret ?_ | refine j_in_normal ?_ | refine j_exit ?_ | refine j_then_exit ?_ | refine j_in_exit ?_ | refine j_in_past ?_ | refine j_skip ?_ | refine j_cond_t ?_ | refine j_cond_f ?_ | refine j_store rfl ?_ | refine j_still_nil ?_)
  refine j_call hrn rfl .nil (fun _ _ => trivial) ?_
  rintro _ _ ⟨R1, rfl, rfl⟩
  simp only [List.cons_append, List.nil_append]
  refine j_tell (q := A1.isNone = r.1.isNone) (c := optR poolR A1 r.1) (by (first | exact Pick.here | exact Pick.there Pick.here | exact Pick.there (Pick.there Pick.here) | exact Pick.there (Pick.there (Pick.there Pick.here)) | exact Pick.there (Pick.there (Pick.there (Pick.there Pick.here))) | exact Pick.there (Pick.there (Pick.there (Pick.there (Pick.there Pick.here)))) | exact Pick.there (Pick.there (Pick.there (Pick.there (Pick.there (Pick.there Pick.here))))))) (fun h hh => optR.iso hh) fun hB1 => ?_
  refine j_tell (q := R1.isNone = r.1.isNone) (c := optR refR R1 r.1) (by (first | exact Pick.here | exact Pick.there Pick.here | exact Pick.there (Pick.there Pick.here) | exact Pick.there (Pick.there (Pick.there Pick.here)) | exact Pick.there (Pick.there (Pick.there (Pick.there Pick.here))) | exact Pick.there (Pick.there (Pick.there (Pick.there (Pick.there Pick.here)))) | exact Pick.there (Pick.there (Pick.there (Pick.there (Pick.there (Pick.there Pick.here))))))) (fun h hh => optR.iso hh) fun hB2 => ?_
  have i1 : IsN A1 r.1.isNone := ⟨hB1⟩
  have i2 : IsN R1 r.1.isNone := ⟨hB2⟩
  have d2 : Dec (r.2 = r.2) true := dec_t rfl
  repeat (first | refine j_addN (by omega) rfl ?_ | refine j_subN (by omega) rfl ?_ | refine j_addI (by omega) (by omega) rfl ?_ | refine j_subI (by omega) (by omega) rfl ?_ | refine j_op rfl ?_ | refine j_pickF rfl ?_ | refine j_pickT rfl ?_ | refine j_region ?_ | refine j_nil ?_ | refine j_then ?_ | refine j_mono (by assumption) ?_ | (refine j_seq fun K hK => ?_) | refine j_gdo rfl ?_ | refine j_gskip_t rfl ?_ | refine j_gskip_f rfl ?_ | refine j_gskip_u rfl ?_ | refine j_gspec rfl ?_ | refine j_block ?_ | refine j_ret ?_ | refine j_then_ret ?_ | refine j_in_ret ?_ | refine j_in_normal ?_ | refine j_exit ?_ | refine j_then_exit ?_ | refine j_in_exit ?_ | refine j_in_past ?_ | refine j_skip ?_ | refine j_cond_t ?_ | refine j_cond_f ?_ | refine j_store rfl ?_ | refine j_still_nil ?_)
  refine j_call (num_spec _) rfl .nil (fun _ _ => trivial) ?_
  rintro _ _ ⟨rfl, rfl⟩
  simp only [List.cons_append, List.nil_append]
  repeat (first | refine j_addN (by omega) rfl ?_ | refine j_subN (by omega) rfl ?_ | refine j_addI (by omega) (by omega) rfl ?_ | refine j_subI (by omega) (by omega) rfl ?_ | refine j_op rfl ?_ | refine j_pickF rfl ?_ | refine j_pickT rfl ?_ | refine j_region ?_ | refine j_nil ?_ | refine j_then ?_ | refine j_mono (by assumption) ?_ | (refine j_seq fun K hK => ?_) | refine j_gdo rfl ?_ | refine j_gskip_t rfl ?_ | refine j_gskip_f rfl ?_ | refine j_gskip_u rfl ?_ | refine j_gspec rfl ?_ | refine j_block ?_ | refine j_ret ?_ | refine j_then_ret ?_ | refine j_in_ret ?_ | refine j_in_normal ?_ | refine j_exit ?_ | refine j_then_exit ?_ | refine j_in_exit ?_ | refine j_in_past ?_ | refine j_skip ?_ | refine j_cond_t ?_ | refine j_cond_f ?_ | refine j_store rfl ?_ | refine j_still_nil ?_)
  (first | refine j_done (.inl rfl) ?_ | refine j_done (.inr rfl) ?_ | refine j_doneM (.inl rfl) ?_ | refine j_doneM (.inr rfl) ?_)
  refine ⟨_, ⟨rfl, ps.set k (A1, R1, r.1), kA, kc, book, m, by rw [List.length_set]; exact hp, hbk, hm, Nat.le_refl _, rfl⟩, ?_⟩
  unfold BL
  rw [own1_set, ref1_set]
  refine LE.trans (LE.sub (M := [optR poolR A1 r.1, optR refR R1 r.1, allR placeR (ps.eraseIdx k), cells b 0 (benchV ((own1 ps).set k A1) ((ref1 ps).set k R1) (.slice kA book.length kc) (.int .i64 m)), own encKp kA kc book, allR keptR book]) (by (repeat' (first | exact Pick.here | apply Pick.there | apply Picks.cons | exact Picks.nil)))) ?_
  refine LE.trans (LE.pcSet hx) ?_
  exact (LE.sub (by (repeat' (first | exact Pick.here | apply Pick.there | apply Picks.cons | exact Picks.nil))))
theorem news_load (at_ a bb bucket : Int) (name tag : ByteArray) (st : Sl PObj × Sl Int) (h1 : st.1.xs.length * 48 ≤ 140737488351232) (h2 : st.2.xs.length * 8 ≤ 140737488351232) :
    Spec Tryd.prog 7 [ptr b 0, opV ⟨2, at_, a, bb, bucket, name, tag, st⟩, .int .i64 (k : Int)] (BL b ps kA kc book m) (fun F => RO F encObj st.1.A st.1.xs ∧ RO F encI st.2.A st.2.xs) (PlQ b book.length) := by
  have hlay := layV_spec b k hk (own1 ps) (ref1 ps) (by rw [List.length_map]; exact hp) (by rw [List.length_map]; exact hp) (.slice kA book.length kc) (.int .i64 m) st.1.A st.2.A st.1.c st.2.c st.1.xs st.2.xs a bb h1 h2
  unfold ptr opV BL at *
  unfold stV at hlay
  refine spec_of Tryd.func7 rfl Tryd.ntmps7 fun F hF => ?_
  obtain ⟨ro1, ro2⟩ := hF
  have hx := List.getElem?_eq_getElem (show k < ps.length by omega)
  generalize ps[k] = x at hx
  obtain ⟨A, R, s⟩ := x
  have d1 : Dec ((2 : Int) = 1) false := dec_f (by omega)
  have d2 : Dec ((2 : Int) = 2) true := dec_t rfl
  refine j_le (LE.pick (c := allR placeR ps) (by (repeat' (first | exact Pick.here | apply Pick.there | apply Picks.cons | exact Picks.nil))) (LE.pcAt hx)) ?_
  refine j_seq fun K hK => ?_
  refine j_region ?_
  refine j_box rfl fun b4 => ?_
  repeat (first | refine j_addN (by omega) rfl ?_ | refine j_subN (by omega) rfl ?_ | refine j_addI (by omega) (by omega) rfl ?_ | refine j_subI (by omega) (by omega) rfl ?_ | refine j_op rfl ?_ | refine j_pickF rfl ?_ | refine j_pickT rfl ?_ | refine j_region ?_ | refine j_nil ?_ | refine j_then ?_ | refine j_mono (by assumption) ?_ | (refine j_seq fun K hK => ?_) | refine j_gdo rfl ?_ | refine j_gskip_t rfl ?_ | refine j_gskip_f rfl ?_ | refine j_gskip_u rfl ?_ | refine j_gspec rfl ?_ | refine j_block ?_ | refine j_ret ?_ | refine j_then_ret ?_ | refine j_in_ret ?_ | refine j_in_normal ?_ | refine j_exit ?_ | refine j_then_exit ?_ | refine j_in_exit ?_ | refine j_in_past ?_ | refine j_skip ?_ | refine j_cond_t ?_ | refine j_cond_f ?_ | refine j_store rfl ?_ | refine j_still_nil ?_)
  refine j_call hlay rfl (by (repeat' (first | exact Pick.here | apply Pick.there | apply Picks.cons | exact Picks.nil))) (fun F' hF' => ⟨ro1.ext hF', ro2.ext hF'⟩) ?_
  rintro _ _ ⟨rfl, A1, R1, rfl⟩
  simp only [List.cons_append, List.nil_append]
  repeat (first | refine j_addN (by omega) rfl ?_ | refine j_subN (by omega) rfl ?_ | refine j_addI (by omega) (by omega) rfl ?_ | refine j_subI (by omega) (by omega) rfl ?_ | refine j_op rfl ?_ | refine j_pickF rfl ?_ | refine j_pickT rfl ?_ | refine j_region ?_ | refine j_nil ?_ | refine j_then ?_ | refine j_mono (by assumption) ?_ | (refine j_seq fun K hK => ?_) | refine j_gdo rfl ?_ | refine j_gskip_t rfl ?_ | refine j_gskip_f rfl ?_ | refine j_gskip_u rfl ?_ | refine j_gspec rfl ?_ | refine j_block ?_ | refine j_ret ?_ | refine j_then_ret ?_ | refine j_in_ret ?_ | refine j_in_normal ?_ | refine j_exit ?_ | refine j_then_exit ?_ | refine j_in_exit ?_ | refine j_in_past ?_ | refine j_skip ?_ | refine j_cond_t ?_ | refine j_cond_f ?_ | refine j_store rfl ?_ | refine j_still_nil ?_)
  (first | refine j_done (.inl rfl) ?_ | refine j_done (.inr rfl) ?_ | refine j_doneM (.inl rfl) ?_ | refine j_doneM (.inr rfl) ?_)
  refine ⟨_, ⟨rfl, ps.set k (A1, R1, (loadF st.1.xs st.2.xs a bb).1), kA, kc, book, m, by rw [List.length_set]; exact hp, hbk, hm, Nat.le_refl _, rfl⟩, ?_⟩
  unfold BL
  rw [own1_set, ref1_set]
  refine LE.trans (LE.sub (M := [optR poolR A1 (loadF st.1.xs st.2.xs a bb).1, optR refR R1 (loadF st.1.xs st.2.xs a bb).1, allR placeR (ps.eraseIdx k), cells b 0 (benchV ((own1 ps).set k A1) ((ref1 ps).set k R1) (.slice kA book.length kc) (.int .i64 m)), own encKp kA kc book, allR keptR book]) (by (repeat' (first | exact Pick.here | apply Pick.there | apply Picks.cons | exact Picks.nil)))) ?_
  refine LE.trans (LE.pcSet hx) ?_
  exact (LE.sub (by (repeat' (first | exact Pick.here | apply Pick.there | apply Picks.cons | exact Picks.nil))))
end
end Go.Proofs.YtjmicpkinflofaaDoor.S
