/- pool: asks for states -/
import Derived.Test.YtjmicpkinflofaaDoorQM
namespace Go.Proofs.YtjmicpkinflofaaDoor.S
open Go.RowKit
set_option linter.unusedVariables false
set_option linter.unusedSimpArgs false
set_option maxRecDepth 100000
set_option maxHeartbeats 4000000
set_option synthInstance.maxHeartbeats 400000
set_option synthInstance.maxSize 4000
attribute [local irreducible] wpList Code.wp Exit.then Exit.inBlock stillR bodyPost hR J Back Mid
section
variable (b : Nat) (ps : List Pc) (kA : Option Addr) (kc : Nat) (book : List Kp) (m : Int) (hp : ps.length = 3) (hbk : ∀ k ∈ book, KpOk k) (hm : rngI m) (k : Nat) (hk : k < 3)
include hp hbk hm hk
theorem asks_state (hbl : book.length + 3 ≤ 100000000) (at_ a bb bucket : Int) (name tag : ByteArray) (st : Sl PObj × Sl Int) :
    Spec Tryd.prog 8 [ptr b 0, opV ⟨5, at_, a, bb, bucket, name, tag, st⟩, .int .i64 (k : Int)] (BL b ps kA kc book m) Tab (PlQ b (book.length + 3)) := by
  have hkeep := fun kA kc book m hm h1 A B c d rows q h2 h3 => keepV_spec b (own1 ps) (ref1 ps) (by rw [List.length_map]; exact hp) (by rw [List.length_map]; exact hp) kA kc book m hm h1 A B c d rows q h2 h3
  unfold stV at hkeep
  unfold ptr opV BL at *
  refine spec_of Tryd.func8 rfl Tryd.ntmps8 fun F hF => ?_
  have tab : Tab F := hF
  have hx := List.getElem?_eq_getElem (show k < ps.length by omega)
  generalize ps[k] = x at hx
  obtain ⟨A, R, s⟩ := x
  have l1 : L3 (own1 ps) := ⟨by rw [List.length_map]; exact hp⟩
  have l2 : L3 (ref1 ps) := ⟨by rw [List.length_map]; exact hp⟩
  have hk3 : Ft (k < 3) := ⟨hk⟩
  have ha1 := own1_at hx
  have ha2 := ref1_at hx
  have hnl := plF_lt ((k + 1 : Nat) : Int)
  have hpl := place_spec ((k + 1 : Nat) : Int)
  generalize plF ((k + 1 : Nat) : Int) = n at hnl hpl
  have hy := List.getElem?_eq_getElem (show n < ps.length by omega)
  generalize ps[n] = y at hy
  obtain ⟨An, Rn, sn⟩ := y
  have hn3 : Ft (n < 3) := ⟨hnl⟩
  have hb1 := own1_at hy
  have hb2 := ref1_at hy
  have q5 : Dec ((5 : Int) = 5) true := dec_t rfl
  have hIn : ∀ {k A R s} (hx : ps[k]? = some (A, R, s)) M, LE (optR poolR A s :: optR refR R s :: allR placeR (ps.eraseIdx k) :: M) (allR placeR ps :: M) := fun {k A R s} hx M => by
    have h1 : LE (optR poolR A s :: optR refR R s :: allR placeR (ps.eraseIdx k) :: M) (allR placeR (ps.set k (A, R, s)) :: M) := LE.pcSet hx
    rwa [set_same hx] at h1
  have hInK := fun M => hIn hx M
  have hInN := fun M => hIn hy M
  refine j_le (LE.pick (c := allR placeR ps) (by (repeat' (first | exact Pick.here | apply Pick.there | apply Picks.cons | exact Picks.nil))) (LE.pcAt hy)) ?_
  refine j_tell (q := OWf sn) (c := optR poolR An sn) (by (first | exact Pick.here | exact Pick.there Pick.here | exact Pick.there (Pick.there Pick.here) | exact Pick.there (Pick.there (Pick.there Pick.here)) | exact Pick.there (Pick.there (Pick.there (Pick.there Pick.here))) | exact Pick.there (Pick.there (Pick.there (Pick.there (Pick.there Pick.here)))) | exact Pick.there (Pick.there (Pick.there (Pick.there (Pick.there (Pick.there Pick.here))))))) (fun h hh => opt_wf hh) fun hwn => ?_
  refine j_le (LE.picks (M := [optR poolR An sn, optR refR Rn sn, allR placeR (ps.eraseIdx n)]) (by (repeat' (first | exact Pick.here | apply Pick.there | apply Picks.cons | exact Picks.nil))) (hInN _)) ?_
  simp only [List.append_eq, List.nil_append, List.cons_append]
  refine j_le (LE.pick (c := allR placeR ps) (by (repeat' (first | exact Pick.here | apply Pick.there | apply Picks.cons | exact Picks.nil))) (LE.pcAt hx)) ?_
  refine j_tell (q := OWf s) (c := optR poolR A s) (by (first | exact Pick.here | exact Pick.there Pick.here | exact Pick.there (Pick.there Pick.here) | exact Pick.there (Pick.there (Pick.there Pick.here)) | exact Pick.there (Pick.there (Pick.there (Pick.there Pick.here))) | exact Pick.there (Pick.there (Pick.there (Pick.there (Pick.there Pick.here)))) | exact Pick.there (Pick.there (Pick.there (Pick.there (Pick.there (Pick.there Pick.here))))))) (fun h hh => opt_wf hh) fun hw => ?_
  have hl1 := rowsO_len hw
  have hl2 := rowsO_len hwn
  refine j_seq fun K hK => ?_
  refine j_region ?_
  refine j_box rfl fun b4 => ?_
  repeat (first | refine j_addN (by omega) rfl ?_ | refine j_subN (by omega) rfl ?_ | refine j_addI (by omega) (by omega) rfl ?_ | refine j_subI (by omega) (by omega) rfl ?_ | refine j_op rfl ?_ | refine j_pickF rfl ?_ | refine j_pickT rfl ?_ | refine j_region ?_ | refine j_nil ?_ | refine j_then ?_ | refine j_mono (by assumption) ?_ | (refine j_seq fun K hK => ?_) | refine j_gdo rfl ?_ | refine j_gskip_t rfl ?_ | refine j_gskip_f rfl ?_ | refine j_gskip_u rfl ?_ | refine j_gspec rfl ?_ | refine j_block ?_ | refine j_ret ?_ | refine j_then_ret ?_ | refine j_in_ret ?_ | refine j_in_normal ?_ | refine j_exit ?_ | refine j_then_exit ?_ | refine j_in_exit ?_ | refine j_in_past ?_ | refine j_skip ?_ | refine j_cond_t ?_ | refine j_cond_f ?_ | refine j_store rfl ?_ | refine j_still_nil ?_)
  refine j_call (state_o (A := A) (s := s)) rfl (by (repeat' (first | exact Pick.here | apply Pick.there | apply Picks.cons | exact Picks.nil))) (fun _ _ => trivial) ?_
  rintro _ _ ⟨A1, c1, B1, e1, rfl, rfl⟩
  unfold stV
  simp only [List.cons_append, List.nil_append]
  repeat (first | refine j_addN (by omega) rfl ?_ | refine j_subN (by omega) rfl ?_ | refine j_addI (by omega) (by omega) rfl ?_ | refine j_subI (by omega) (by omega) rfl ?_ | refine j_op rfl ?_ | refine j_pickF rfl ?_ | refine j_pickT rfl ?_ | refine j_region ?_ | refine j_nil ?_ | refine j_then ?_ | refine j_mono (by assumption) ?_ | (refine j_seq fun K hK => ?_) | refine j_gdo rfl ?_ | refine j_gskip_t rfl ?_ | refine j_gskip_f rfl ?_ | refine j_gskip_u rfl ?_ | refine j_gspec rfl ?_ | refine j_block ?_ | refine j_ret ?_ | refine j_then_ret ?_ | refine j_in_ret ?_ | refine j_in_normal ?_ | refine j_exit ?_ | refine j_then_exit ?_ | refine j_in_exit ?_ | refine j_in_past ?_ | refine j_skip ?_ | refine j_cond_t ?_ | refine j_cond_f ?_ | refine j_store rfl ?_ | refine j_still_nil ?_)
  refine j_alloc rfl fun b9 => ?_
  repeat (first | refine j_addN (by omega) rfl ?_ | refine j_subN (by omega) rfl ?_ | refine j_addI (by omega) (by omega) rfl ?_ | refine j_subI (by omega) (by omega) rfl ?_ | refine j_op rfl ?_ | refine j_pickF rfl ?_ | refine j_pickT rfl ?_ | refine j_region ?_ | refine j_nil ?_ | refine j_then ?_ | refine j_mono (by assumption) ?_ | (refine j_seq fun K hK => ?_) | refine j_gdo rfl ?_ | refine j_gskip_t rfl ?_ | refine j_gskip_f rfl ?_ | refine j_gskip_u rfl ?_ | refine j_gspec rfl ?_ | refine j_block ?_ | refine j_ret ?_ | refine j_then_ret ?_ | refine j_in_ret ?_ | refine j_in_normal ?_ | refine j_exit ?_ | refine j_then_exit ?_ | refine j_in_exit ?_ | refine j_in_past ?_ | refine j_skip ?_ | refine j_cond_t ?_ | refine j_cond_f ?_ | refine j_store rfl ?_ | refine j_still_nil ?_)
  refine j_call (state_o (A := A) (s := s)) rfl (by (repeat' (first | exact Pick.here | apply Pick.there | apply Picks.cons | exact Picks.nil))) (fun _ _ => trivial) ?_
  rintro _ _ ⟨A2, c2, B2, e2, rfl, rfl⟩
  unfold stV
  simp only [List.cons_append, List.nil_append]
  repeat (first | refine j_addN (by omega) rfl ?_ | refine j_subN (by omega) rfl ?_ | refine j_addI (by omega) (by omega) rfl ?_ | refine j_subI (by omega) (by omega) rfl ?_ | refine j_op rfl ?_ | refine j_pickF rfl ?_ | refine j_pickT rfl ?_ | refine j_region ?_ | refine j_nil ?_ | refine j_then ?_ | refine j_mono (by assumption) ?_ | (refine j_seq fun K hK => ?_) | refine j_gdo rfl ?_ | refine j_gskip_t rfl ?_ | refine j_gskip_f rfl ?_ | refine j_gskip_u rfl ?_ | refine j_gspec rfl ?_ | refine j_block ?_ | refine j_ret ?_ | refine j_then_ret ?_ | refine j_in_ret ?_ | refine j_in_normal ?_ | refine j_exit ?_ | refine j_then_exit ?_ | refine j_in_exit ?_ | refine j_in_past ?_ | refine j_skip ?_ | refine j_cond_t ?_ | refine j_cond_f ?_ | refine j_store rfl ?_ | refine j_still_nil ?_)
  refine j_alloc rfl fun b10 => ?_
  repeat (first | refine j_addN (by omega) rfl ?_ | refine j_subN (by omega) rfl ?_ | refine j_addI (by omega) (by omega) rfl ?_ | refine j_subI (by omega) (by omega) rfl ?_ | refine j_op rfl ?_ | refine j_pickF rfl ?_ | refine j_pickT rfl ?_ | refine j_region ?_ | refine j_nil ?_ | refine j_then ?_ | refine j_mono (by assumption) ?_ | (refine j_seq fun K hK => ?_) | refine j_gdo rfl ?_ | refine j_gskip_t rfl ?_ | refine j_gskip_f rfl ?_ | refine j_gskip_u rfl ?_ | refine j_gspec rfl ?_ | refine j_block ?_ | refine j_ret ?_ | refine j_then_ret ?_ | refine j_in_ret ?_ | refine j_in_normal ?_ | refine j_exit ?_ | refine j_then_exit ?_ | refine j_in_exit ?_ | refine j_in_past ?_ | refine j_skip ?_ | refine j_cond_t ?_ | refine j_cond_f ?_ | refine j_store rfl ?_ | refine j_still_nil ?_)
  refine j_call hpl rfl .nil (fun _ _ => trivial) ?_
  rintro _ _ ⟨rfl, rfl⟩
  simp only [List.cons_append, List.nil_append]
  refine j_le (LE.picks (M := [optR poolR A s, optR refR R s, allR placeR (ps.eraseIdx k)]) (by (repeat' (first | exact Pick.here | apply Pick.there | apply Picks.cons | exact Picks.nil))) (hInK _)) ?_
  simp only [List.append_eq, List.nil_append, List.cons_append]
  refine j_le (LE.pick (c := allR placeR ps) (by (repeat' (first | exact Pick.here | apply Pick.there | apply Picks.cons | exact Picks.nil))) (LE.pcAt hy)) ?_
  repeat (first | refine j_addN (by omega) rfl ?_ | refine j_subN (by omega) rfl ?_ | refine j_addI (by omega) (by omega) rfl ?_ | refine j_subI (by omega) (by omega) rfl ?_ | refine j_op rfl ?_ | refine j_pickF rfl ?_ | refine j_pickT rfl ?_ | refine j_region ?_ | refine j_nil ?_ | refine j_then ?_ | refine j_mono (by assumption) ?_ | (refine j_seq fun K hK => ?_) | refine j_gdo rfl ?_ | refine j_gskip_t rfl ?_ | refine j_gskip_f rfl ?_ | refine j_gskip_u rfl ?_ | refine j_gspec rfl ?_ | refine j_block ?_ | refine j_ret ?_ | refine j_then_ret ?_ | refine j_in_ret ?_ | refine j_in_normal ?_ | refine j_exit ?_ | refine j_then_exit ?_ | refine j_in_exit ?_ | refine j_in_past ?_ | refine j_skip ?_ | refine j_cond_t ?_ | refine j_cond_f ?_ | refine j_store rfl ?_ | refine j_still_nil ?_)
  refine j_call (state_o (A := An) (s := sn)) rfl (by (repeat' (first | exact Pick.here | apply Pick.there | apply Picks.cons | exact Picks.nil))) (fun _ _ => trivial) ?_
  rintro _ _ ⟨A3, c3, B3, e3, rfl, rfl⟩
  unfold stV
  simp only [List.cons_append, List.nil_append]
  repeat (first | refine j_addN (by omega) rfl ?_ | refine j_subN (by omega) rfl ?_ | refine j_addI (by omega) (by omega) rfl ?_ | refine j_subI (by omega) (by omega) rfl ?_ | refine j_op rfl ?_ | refine j_pickF rfl ?_ | refine j_pickT rfl ?_ | refine j_region ?_ | refine j_nil ?_ | refine j_then ?_ | refine j_mono (by assumption) ?_ | (refine j_seq fun K hK => ?_) | refine j_gdo rfl ?_ | refine j_gskip_t rfl ?_ | refine j_gskip_f rfl ?_ | refine j_gskip_u rfl ?_ | refine j_gspec rfl ?_ | refine j_block ?_ | refine j_ret ?_ | refine j_then_ret ?_ | refine j_in_ret ?_ | refine j_in_normal ?_ | refine j_exit ?_ | refine j_then_exit ?_ | refine j_in_exit ?_ | refine j_in_past ?_ | refine j_skip ?_ | refine j_cond_t ?_ | refine j_cond_f ?_ | refine j_store rfl ?_ | refine j_still_nil ?_)
  refine j_alloc rfl fun b12 => ?_
  refine j_le (LE.picks (M := [optR poolR An sn, optR refR Rn sn, allR placeR (ps.eraseIdx n)]) (by (repeat' (first | exact Pick.here | apply Pick.there | apply Picks.cons | exact Picks.nil))) (hInN _)) ?_
  simp only [List.append_eq, List.nil_append, List.cons_append]
  refine j_le (LE.pick (c := allR placeR ps) (by (repeat' (first | exact Pick.here | apply Pick.there | apply Picks.cons | exact Picks.nil))) (LE.pcAt hx)) ?_
  have ss := fun A B c d A' B' c' d' => sameState_spec A B A' B' c d c' d' (rowsO s) (queueO s) (rowsO s) (queueO s) (by omega) (by omega)
  have ssn := fun A B c d A' B' c' d' => sameState_spec A B A' B' c d c' d' (rowsO sn) (queueO sn) (rowsO sn) (queueO sn) (by omega) (by omega)
  unfold stV at ss ssn
  repeat (first | refine j_addN (by omega) rfl ?_ | refine j_subN (by omega) rfl ?_ | refine j_addI (by omega) (by omega) rfl ?_ | refine j_subI (by omega) (by omega) rfl ?_ | refine j_op rfl ?_ | refine j_pickF rfl ?_ | refine j_pickT rfl ?_ | refine j_region ?_ | refine j_nil ?_ | refine j_then ?_ | refine j_mono (by assumption) ?_ | (refine j_seq fun K hK => ?_) | refine j_gdo rfl ?_ | refine j_gskip_t rfl ?_ | refine j_gskip_f rfl ?_ | refine j_gskip_u rfl ?_ | refine j_gspec rfl ?_ | refine j_block ?_ | refine j_ret ?_ | refine j_then_ret ?_ | refine j_in_ret ?_ | refine j_in_normal ?_ | refine j_exit ?_ | refine j_then_exit ?_ | refine j_in_exit ?_ | refine j_in_past ?_ | refine j_skip ?_ | refine j_cond_t ?_ | refine j_cond_f ?_ | refine j_store rfl ?_ | refine j_still_nil ?_)
  refine j_region_hoist (.q 0 (.q 1 (.alt 2 (.alt 3 (.q 4 (.q 5 (.q 6 (.alt 7 (.alt 8 (.q 9 (.q 10 (.q 11 (.q 12 (.q 13 (.q 14 (.q 15 (.q 16 (.q 17 (.alt 18 (.alt 19 (.q 20 (.q 21 .done)) .no) .no)))))))))) .no) .no)))) .no) .no))) [cells b 0 (benchV (own1 ps) (ref1 ps) (.slice kA book.length kc) (.int .i64 m)), cells b9 0 [.slice A1 (rowsO s).length c1, .slice B1 (queueO s).length e1], cells b10 0 [.slice A2 (rowsO s).length c2, .slice B2 (queueO s).length e2], cells b12 0 [.slice A3 (rowsO sn).length c3, .slice B3 (queueO sn).length e3]] mixed (by kernel_rfl) (by kernel_rfl) (LE.sub (by (repeat' (first | exact Pick.here | apply Pick.there | apply Picks.cons | exact Picks.nil)))) fun hLE => ?_
  simp only [lay, List.getD_cons_zero, List.getD_cons_succ]
  repeat (first | refine j_hq (by assumption) rfl ?_ | refine j_hq_pickF (by assumption) rfl ?_ | refine j_hq_pickT (by assumption) rfl ?_ | refine j_hq_gdo (by assumption) rfl ?_ | refine j_hq_gskip_t (by assumption) rfl ?_ | refine j_hq_gskip_f (by assumption) rfl ?_ | refine j_hq_gskip_u (by assumption) rfl ?_ | refine j_hq_gspec (by assumption) rfl ?_)
  refine j_he ?_
  refine j_call (rstate_o (A := R) (s := s) hw) rfl (by (repeat' (first | exact Pick.here | apply Pick.there | apply Picks.cons | exact Picks.nil))) (fun _ _ => trivial) ?_
  rintro _ _ ⟨A4, c4, B4, e4, rfl, rfl⟩
  unfold stV
  simp only [List.cons_append, List.nil_append]
  repeat (first | refine j_addN (by omega) rfl ?_ | refine j_subN (by omega) rfl ?_ | refine j_addI (by omega) (by omega) rfl ?_ | refine j_subI (by omega) (by omega) rfl ?_ | refine j_op rfl ?_ | refine j_pickF rfl ?_ | refine j_pickT rfl ?_ | refine j_region ?_ | refine j_nil ?_ | refine j_then ?_ | refine j_mono (by assumption) ?_ | (refine j_seq fun K hK => ?_) | refine j_gdo rfl ?_ | refine j_gskip_t rfl ?_ | refine j_gskip_f rfl ?_ | refine j_gskip_u rfl ?_ | refine j_gspec rfl ?_ | refine j_block ?_ | refine j_ret ?_ | refine j_then_ret ?_ | refine j_in_ret ?_ | refine j_in_normal ?_ | refine j_exit ?_ | refine j_then_exit ?_ | refine j_in_exit ?_ | refine j_in_past ?_ | refine j_skip ?_ | refine j_cond_t ?_ | refine j_cond_f ?_ | refine j_store rfl ?_ | refine j_still_nil ?_)
  (refine j_hn (LE.sub (by (repeat' (first | exact Pick.here | apply Pick.there | apply Picks.cons | exact Picks.nil)))) fun hLE => ?_)
  refine j_he ?_
  refine j_call (ss A1 B1 c1 e1 A4 B4 c4 e4) rfl .nil (fun F' hF' => ⟨hF'.ro_own, hF'.ro_own, hF'.ro_own, hF'.ro_own⟩) ?_
  rintro _ _ ⟨rfl, rfl⟩
  simp only [List.cons_append, List.nil_append]
  rw [show (decide True && decide True) = true by simp]
  repeat (first | refine j_addN (by omega) rfl ?_ | refine j_subN (by omega) rfl ?_ | refine j_addI (by omega) (by omega) rfl ?_ | refine j_subI (by omega) (by omega) rfl ?_ | refine j_op rfl ?_ | refine j_pickF rfl ?_ | refine j_pickT rfl ?_ | refine j_region ?_ | refine j_nil ?_ | refine j_then ?_ | refine j_mono (by assumption) ?_ | (refine j_seq fun K hK => ?_) | refine j_gdo rfl ?_ | refine j_gskip_t rfl ?_ | refine j_gskip_f rfl ?_ | refine j_gskip_u rfl ?_ | refine j_gspec rfl ?_ | refine j_block ?_ | refine j_ret ?_ | refine j_then_ret ?_ | refine j_in_ret ?_ | refine j_in_normal ?_ | refine j_exit ?_ | refine j_then_exit ?_ | refine j_in_exit ?_ | refine j_in_past ?_ | refine j_skip ?_ | refine j_cond_t ?_ | refine j_cond_f ?_ | refine j_store rfl ?_ | refine j_still_nil ?_)
  (refine j_hn (LE.sub (by (repeat' (first | exact Pick.here | apply Pick.there | apply Picks.cons | exact Picks.nil)))) fun hLE => ?_)
  repeat (first | refine j_hq (by assumption) rfl ?_ | refine j_hq_pickF (by assumption) rfl ?_ | refine j_hq_pickT (by assumption) rfl ?_ | refine j_hq_gdo (by assumption) rfl ?_ | refine j_hq_gskip_t (by assumption) rfl ?_ | refine j_hq_gskip_f (by assumption) rfl ?_ | refine j_hq_gskip_u (by assumption) rfl ?_ | refine j_hq_gspec (by assumption) rfl ?_)
  refine j_he ?_
  refine j_gcall (rstate_o (A := R) (s := s) hw) rfl (by (repeat' (first | exact Pick.here | apply Pick.there | apply Picks.cons | exact Picks.nil))) (fun _ _ => trivial) ?_
  rintro _ _ ⟨A5, c5, B5, e5, rfl, rfl⟩
  unfold stV
  simp only [List.cons_append, List.nil_append]
  repeat (first | refine j_addN (by omega) rfl ?_ | refine j_subN (by omega) rfl ?_ | refine j_addI (by omega) (by omega) rfl ?_ | refine j_subI (by omega) (by omega) rfl ?_ | refine j_op rfl ?_ | refine j_pickF rfl ?_ | refine j_pickT rfl ?_ | refine j_region ?_ | refine j_nil ?_ | refine j_then ?_ | refine j_mono (by assumption) ?_ | (refine j_seq fun K hK => ?_) | refine j_gdo rfl ?_ | refine j_gskip_t rfl ?_ | refine j_gskip_f rfl ?_ | refine j_gskip_u rfl ?_ | refine j_gspec rfl ?_ | refine j_block ?_ | refine j_ret ?_ | refine j_then_ret ?_ | refine j_in_ret ?_ | refine j_in_normal ?_ | refine j_exit ?_ | refine j_then_exit ?_ | refine j_in_exit ?_ | refine j_in_past ?_ | refine j_skip ?_ | refine j_cond_t ?_ | refine j_cond_f ?_ | refine j_store rfl ?_ | refine j_still_nil ?_)
  (refine j_hn (LE.sub (by (repeat' (first | exact Pick.here | apply Pick.there | apply Picks.cons | exact Picks.nil)))) fun hLE => ?_)
  refine j_he ?_
  refine j_gcall (ss A2 B2 c2 e2 A5 B5 c5 e5) rfl .nil (fun F' hF' => ⟨hF'.ro_own, hF'.ro_own, hF'.ro_own, hF'.ro_own⟩) ?_
  rintro _ _ ⟨rfl, rfl⟩
  simp only [List.cons_append, List.nil_append]
  rw [show (decide True && decide True) = true by simp]
  refine j_le (LE.picks (M := [optR poolR A s, optR refR R s, allR placeR (ps.eraseIdx k)]) (by (repeat' (first | exact Pick.here | apply Pick.there | apply Picks.cons | exact Picks.nil))) (hInK _)) ?_
  simp only [List.append_eq, List.nil_append, List.cons_append]
  refine j_le (LE.pick (c := allR placeR ps) (by (repeat' (first | exact Pick.here | apply Pick.there | apply Picks.cons | exact Picks.nil))) (LE.pcAt hy)) ?_
  repeat (first | refine j_addN (by omega) rfl ?_ | refine j_subN (by omega) rfl ?_ | refine j_addI (by omega) (by omega) rfl ?_ | refine j_subI (by omega) (by omega) rfl ?_ | refine j_op rfl ?_ | refine j_pickF rfl ?_ | refine j_pickT rfl ?_ | refine j_region ?_ | refine j_nil ?_ | refine j_then ?_ | refine j_mono (by assumption) ?_ | (refine j_seq fun K hK => ?_) | refine j_gdo rfl ?_ | refine j_gskip_t rfl ?_ | refine j_gskip_f rfl ?_ | refine j_gskip_u rfl ?_ | refine j_gspec rfl ?_ | refine j_block ?_ | refine j_ret ?_ | refine j_then_ret ?_ | refine j_in_ret ?_ | refine j_in_normal ?_ | refine j_exit ?_ | refine j_then_exit ?_ | refine j_in_exit ?_ | refine j_in_past ?_ | refine j_skip ?_ | refine j_cond_t ?_ | refine j_cond_f ?_ | refine j_store rfl ?_ | refine j_still_nil ?_)
  (refine j_hn (LE.sub (by (repeat' (first | exact Pick.here | apply Pick.there | apply Picks.cons | exact Picks.nil)))) fun hLE => ?_)
  repeat (first | refine j_hq (by assumption) rfl ?_ | refine j_hq_pickF (by assumption) rfl ?_ | refine j_hq_pickT (by assumption) rfl ?_ | refine j_hq_gdo (by assumption) rfl ?_ | refine j_hq_gskip_t (by assumption) rfl ?_ | refine j_hq_gskip_f (by assumption) rfl ?_ | refine j_hq_gskip_u (by assumption) rfl ?_ | refine j_hq_gspec (by assumption) rfl ?_)
  refine j_he ?_
  refine j_gcall (rstate_o (A := Rn) (s := sn) hwn) rfl (by (repeat' (first | exact Pick.here | apply Pick.there | apply Picks.cons | exact Picks.nil))) (fun _ _ => trivial) ?_
  rintro _ _ ⟨A6, c6, B6, e6, rfl, rfl⟩
  unfold stV
  simp only [List.cons_append, List.nil_append]
  repeat (first | refine j_addN (by omega) rfl ?_ | refine j_subN (by omega) rfl ?_ | refine j_addI (by omega) (by omega) rfl ?_ | refine j_subI (by omega) (by omega) rfl ?_ | refine j_op rfl ?_ | refine j_pickF rfl ?_ | refine j_pickT rfl ?_ | refine j_region ?_ | refine j_nil ?_ | refine j_then ?_ | refine j_mono (by assumption) ?_ | (refine j_seq fun K hK => ?_) | refine j_gdo rfl ?_ | refine j_gskip_t rfl ?_ | refine j_gskip_f rfl ?_ | refine j_gskip_u rfl ?_ | refine j_gspec rfl ?_ | refine j_block ?_ | refine j_ret ?_ | refine j_then_ret ?_ | refine j_in_ret ?_ | refine j_in_normal ?_ | refine j_exit ?_ | refine j_then_exit ?_ | refine j_in_exit ?_ | refine j_in_past ?_ | refine j_skip ?_ | refine j_cond_t ?_ | refine j_cond_f ?_ | refine j_store rfl ?_ | refine j_still_nil ?_)
  (refine j_hn (LE.sub (by (repeat' (first | exact Pick.here | apply Pick.there | apply Picks.cons | exact Picks.nil)))) fun hLE => ?_)
  refine j_he ?_
  refine j_gcall (ssn A3 B3 c3 e3 A6 B6 c6 e6) rfl .nil (fun F' hF' => ⟨hF'.ro_own, hF'.ro_own, hF'.ro_own, hF'.ro_own⟩) ?_
  rintro _ _ ⟨rfl, rfl⟩
  simp only [List.cons_append, List.nil_append]
  rw [show (decide True && decide True) = true by simp]
  repeat (first | refine j_addN (by omega) rfl ?_ | refine j_subN (by omega) rfl ?_ | refine j_addI (by omega) (by omega) rfl ?_ | refine j_subI (by omega) (by omega) rfl ?_ | refine j_op rfl ?_ | refine j_pickF rfl ?_ | refine j_pickT rfl ?_ | refine j_region ?_ | refine j_nil ?_ | refine j_then ?_ | refine j_mono (by assumption) ?_ | (refine j_seq fun K hK => ?_) | refine j_gdo rfl ?_ | refine j_gskip_t rfl ?_ | refine j_gskip_f rfl ?_ | refine j_gskip_u rfl ?_ | refine j_gspec rfl ?_ | refine j_block ?_ | refine j_ret ?_ | refine j_then_ret ?_ | refine j_in_ret ?_ | refine j_in_normal ?_ | refine j_exit ?_ | refine j_then_exit ?_ | refine j_in_exit ?_ | refine j_in_past ?_ | refine j_skip ?_ | refine j_cond_t ?_ | refine j_cond_f ?_ | refine j_store rfl ?_ | refine j_still_nil ?_)
  (refine j_hn (LE.sub (by (repeat' (first | exact Pick.here | apply Pick.there | apply Picks.cons | exact Picks.nil)))) fun hLE => ?_)
  repeat (first | refine j_hq (by assumption) rfl ?_ | refine j_hq_pickF (by assumption) rfl ?_ | refine j_hq_pickT (by assumption) rfl ?_ | refine j_hq_gdo (by assumption) rfl ?_ | refine j_hq_gskip_t (by assumption) rfl ?_ | refine j_hq_gskip_f (by assumption) rfl ?_ | refine j_hq_gskip_u (by assumption) rfl ?_ | refine j_hq_gspec (by assumption) rfl ?_)
  refine j_hend ?_
  repeat (first | refine j_addN (by omega) rfl ?_ | refine j_subN (by omega) rfl ?_ | refine j_addI (by omega) (by omega) rfl ?_ | refine j_subI (by omega) (by omega) rfl ?_ | refine j_op rfl ?_ | refine j_pickF rfl ?_ | refine j_pickT rfl ?_ | refine j_region ?_ | refine j_nil ?_ | refine j_then ?_ | refine j_mono (by assumption) ?_ | (refine j_seq fun K hK => ?_) | refine j_gdo rfl ?_ | refine j_gskip_t rfl ?_ | refine j_gskip_f rfl ?_ | refine j_gskip_u rfl ?_ | refine j_gspec rfl ?_ | refine j_block ?_ | refine j_ret ?_ | refine j_then_ret ?_ | refine j_in_ret ?_ | refine j_in_normal ?_ | refine j_exit ?_ | refine j_then_exit ?_ | refine j_in_exit ?_ | refine j_in_past ?_ | refine j_skip ?_ | refine j_cond_t ?_ | refine j_cond_f ?_ | refine j_store rfl ?_ | refine j_still_nil ?_)
  refine j_call (hkeep kA kc book m hm (by omega) A1 B1 c1 e1 (rowsO s) (queueO s) hl1.1 hl1.2) rfl (by (repeat' (first | exact Pick.here | apply Pick.there | apply Picks.cons | exact Picks.nil))) (fun F' hF' => tab.ext hF') ?_
  rintro _ _ ⟨rfl, kA1, kc1, kp1, m1, g1, g2, rfl⟩
  have hb1l : (book ++ [kp1]).length = book.length + 1 := by simp
  simp only [List.cons_append, List.nil_append]
  repeat (first | refine j_addN (by omega) rfl ?_ | refine j_subN (by omega) rfl ?_ | refine j_addI (by omega) (by omega) rfl ?_ | refine j_subI (by omega) (by omega) rfl ?_ | refine j_op rfl ?_ | refine j_pickF rfl ?_ | refine j_pickT rfl ?_ | refine j_region ?_ | refine j_nil ?_ | refine j_then ?_ | refine j_mono (by assumption) ?_ | (refine j_seq fun K hK => ?_) | refine j_gdo rfl ?_ | refine j_gskip_t rfl ?_ | refine j_gskip_f rfl ?_ | refine j_gskip_u rfl ?_ | refine j_gspec rfl ?_ | refine j_block ?_ | refine j_ret ?_ | refine j_then_ret ?_ | refine j_in_ret ?_ | refine j_in_normal ?_ | refine j_exit ?_ | refine j_then_exit ?_ | refine j_in_exit ?_ | refine j_in_past ?_ | refine j_skip ?_ | refine j_cond_t ?_ | refine j_cond_f ?_ | refine j_store rfl ?_ | refine j_still_nil ?_)
  refine j_call (hkeep kA1 kc1 (book ++ [kp1]) m1 g2 (by omega) A2 B2 c2 e2 (rowsO s) (queueO s) hl1.1 hl1.2) rfl (by (repeat' (first | exact Pick.here | apply Pick.there | apply Picks.cons | exact Picks.nil))) (fun F' hF' => tab.ext hF') ?_
  rintro _ _ ⟨rfl, kA2, kc2, kp2, m2, g3, g4, rfl⟩
  have hb2l : (book ++ [kp1] ++ [kp2]).length = book.length + 2 := by simp
  simp only [List.cons_append, List.nil_append]
  repeat (first | refine j_addN (by omega) rfl ?_ | refine j_subN (by omega) rfl ?_ | refine j_addI (by omega) (by omega) rfl ?_ | refine j_subI (by omega) (by omega) rfl ?_ | refine j_op rfl ?_ | refine j_pickF rfl ?_ | refine j_pickT rfl ?_ | refine j_region ?_ | refine j_nil ?_ | refine j_then ?_ | refine j_mono (by assumption) ?_ | (refine j_seq fun K hK => ?_) | refine j_gdo rfl ?_ | refine j_gskip_t rfl ?_ | refine j_gskip_f rfl ?_ | refine j_gskip_u rfl ?_ | refine j_gspec rfl ?_ | refine j_block ?_ | refine j_ret ?_ | refine j_then_ret ?_ | refine j_in_ret ?_ | refine j_in_normal ?_ | refine j_exit ?_ | refine j_then_exit ?_ | refine j_in_exit ?_ | refine j_in_past ?_ | refine j_skip ?_ | refine j_cond_t ?_ | refine j_cond_f ?_ | refine j_store rfl ?_ | refine j_still_nil ?_)
  refine j_call (hkeep kA2 kc2 (book ++ [kp1] ++ [kp2]) m2 g4 (by omega) A3 B3 c3 e3 (rowsO sn) (queueO sn) hl2.1 hl2.2) rfl (by (repeat' (first | exact Pick.here | apply Pick.there | apply Picks.cons | exact Picks.nil))) (fun F' hF' => tab.ext hF') ?_
  rintro _ _ ⟨rfl, kA3, kc3, kp3, m3, g5, g6, rfl⟩
  simp only [List.cons_append, List.nil_append]
  repeat (first | refine j_addN (by omega) rfl ?_ | refine j_subN (by omega) rfl ?_ | refine j_addI (by omega) (by omega) rfl ?_ | refine j_subI (by omega) (by omega) rfl ?_ | refine j_op rfl ?_ | refine j_pickF rfl ?_ | refine j_pickT rfl ?_ | refine j_region ?_ | refine j_nil ?_ | refine j_then ?_ | refine j_mono (by assumption) ?_ | (refine j_seq fun K hK => ?_) | refine j_gdo rfl ?_ | refine j_gskip_t rfl ?_ | refine j_gskip_f rfl ?_ | refine j_gskip_u rfl ?_ | refine j_gspec rfl ?_ | refine j_block ?_ | refine j_ret ?_ | refine j_then_ret ?_ | refine j_in_ret ?_ | refine j_in_normal ?_ | refine j_exit ?_ | refine j_then_exit ?_ | refine j_in_exit ?_ | refine j_in_past ?_ | refine j_skip ?_ | refine j_cond_t ?_ | refine j_cond_f ?_ | refine j_store rfl ?_ | refine j_still_nil ?_)
  (first | refine j_done (.inl rfl) ?_ | refine j_done (.inr rfl) ?_ | refine j_doneM (.inl rfl) ?_ | refine j_doneM (.inr rfl) ?_)
  refine ⟨_, ⟨rfl, ps, kA3, kc3, book ++ [kp1] ++ [kp2] ++ [kp3], m3, hp, fun kk hkk => ?_, g6, by simp, rfl⟩, ?_⟩
  · simp only [List.mem_append, List.mem_singleton] at hkk
    rcases hkk with ((hkk | rfl) | rfl) | rfl
    · exact hbk kk hkk
    · exact g1
    · exact g3
    · exact g5
  · unfold BL
    refine LE.trans (LE.picks (M := [optR poolR An sn, optR refR Rn sn, allR placeR (ps.eraseIdx n)]) (by (repeat' (first | exact Pick.here | apply Pick.there | apply Picks.cons | exact Picks.nil))) (hInN _)) ?_
    exact (LE.sub (by (repeat' (first | exact Pick.here | apply Pick.there | apply Picks.cons | exact Picks.nil))))
end
end Go.Proofs.YtjmicpkinflofaaDoor.S
