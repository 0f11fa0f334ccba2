/- exec: the law of bytes -/
import Derived.Test.YtcoohckdnefacaaEL
namespace Go.Proofs.Ytcoohckdnefacaa.S
open Go.RowKit
set_option linter.unusedVariables false
set_option linter.unusedSimpArgs false
set_option maxRecDepth 100000
set_option maxHeartbeats 4000000
set_option synthInstance.maxHeartbeats 400000
set_option synthInstance.maxSize 4000
attribute [local irreducible] wpList Code.wp Exit.then Exit.inBlock stillR bodyPost hR J Back Mid
theorem effsF_size (file : Int) : ∀ (size : Int) (l : List Edt), 0 ≤ size → size ≤ 300 → 0 ≤ (effsF file size l).2 ∧ (effsF file size l).2 ≤ 300
  | size, [], h0, h => ⟨h0, h⟩
  | size, e :: l, h0, h => by
    refine effsF_size file (effF e file size).size l ?_ ?_
    all_goals
      have h1 := clipF_range e.n 0 200 (by omega)
      have h2 := clipF_range e.at_ 0 200 (by omega)
      have h3 := shortF_size e.data 60
      unfold effF
      split
      · dsimp only; omega
      · dsimp only
        split <;> omega
theorem bstr_size (b : List UInt8) : (bstr b).size = b.length := by simp [bstr, ByteArray.size]
theorem bstr_list (b : List UInt8) : (bstr b).data.toList = b := by simp [bstr]
theorem bstr_extract (b : List UInt8) (f c : Nat) : (bstr b).extract f (f + c) = bstr ((b.drop f).take c) := by
  unfold bstr
  have : ∀ x y : ByteArray, x.data.toList = y.data.toList → x = y := fun x y h => by
    cases x; cases y; congr 1; exact Array.ext' h
  apply this
  simp [ByteArray.data_extract, List.drop_take]
def readE (f c z : Nat) : Stp := ⟨⟨0, bE, (c : Int), ⟨none, 0, []⟩, 0, 0⟩, ⟨2, 9, 0, (f : Int), (c : Int), bE, (z : Int)⟩⟩
theorem begin9 (s : ByteArray) : beginF [⟨0, 9, 9, 0⟩] [s] = some [(9, s.data.toList)] := by
  show ([((⟨0, 9, 9, 0⟩ : Slt), s)].foldlM beginStep []) = _
  show (beginStep [] (⟨0, 9, 9, 0⟩, s) >>= fun q => some q) = _
  have : beginStep [] (⟨0, 9, 9, 0⟩, s) = some [(9, s.data.toList)] := by
    unfold beginStep
    rw [if_neg (fun hh => absurd (show (9 : Int) = -1 from hh.1) (by omega)), if_neg (by rintro (hh | hh); cases hh; exact absurd (show (9 : Int) ≤ -1 from hh) (by omega))]
    rfl
  rw [this]
  rfl
theorem end9 (b : List UInt8) : endF [(9, b)] [⟨0, 9, 9, 0⟩] = some [bstr b] := by rfl
theorem apply9 (s : ByteArray) (eds : List Edt) (f c : Nat) (hfc : f + c ≤ (contentF s.data.toList (effsF 9 s.size eds).1).length) :
    applyF [⟨0, 9, 9, 0⟩] (((effsF 9 s.size eds).1.map stpE ++ [readE f c (contentF s.data.toList (effsF 9 s.size eds).1).length]).map stpP) [s] =
      some ((effsF 9 s.size eds).1.map (fun _ => RP0) ++ [⟨0, bstr (((contentF s.data.toList (effsF 9 s.size eds).1).drop f).take c), (c : Int), [], 0, 0⟩], [bstr (contentF s.data.toList (effsF 9 s.size eds).1)]) := by
  obtain ⟨h1, h2⟩ := run_edits 9 eds [(9, s.data.toList)] s.data.toList s.size [] rfl (by rw [dsize])
  generalize contentF s.data.toList (effsF 9 s.size eds).1 = b at *
  generalize (effsF 9 s.size eds).1 = effs at *
  unfold applyF
  rw [begin9, Option.bind_some]
  unfold runF
  rw [List.map_append, List.map_map, List.foldlM_append]
  rw [show (List.map (stpP ∘ stpE) effs) = effs.map (fun e => stpP (stpE e)) from rfl, h1]
  have hst : stepS (mput [(9, s.data.toList)] 9 b) ⟨2, 9, 0, (f : Int), (c : Int), bE, (b.length : Int)⟩ = some (mput [(9, s.data.toList)] 9 b, bstr ((b.drop f).take c)) := by
    have hm : mput [((9 : Int), s.data.toList)] 9 b = [(9, b)] := rfl
    rw [hm]
    have hg : mget [((9 : Int), b)] 9 = some b := rfl
    unfold stepS
    rw [if_neg (by simp), if_neg (by simp), if_neg (by show ¬ (mget [((9 : Int), b)] 9).isNone = true; rw [hg]; simp), if_pos rfl]
    unfold readS
    dsimp only
    rw [hg, Option.getD_some, if_neg (by rintro (hh | hh); exact hh rfl; omega)]
    by_cases hc : c = 0
    · subst hc
      rw [if_pos (by rfl)]
      rfl
    · rw [if_neg (by omega), if_neg (by omega)]
      rfl
  have hrs : runStep (mput [(9, s.data.toList)] 9 b, [] ++ effs.map (fun _ => RP0)) (stpP (readE f c b.length)) = some (mput [(9, s.data.toList)] 9 b, effs.map (fun _ => RP0) ++ [⟨0, bstr ((b.drop f).take c), (c : Int), [], 0, 0⟩]) := by
    rw [runStep_yes ⟨rfl, by show (2 : Int) ≠ 0; omega⟩]
    show (stepS _ _).map _ = _
    show (stepS (mput [(9, s.data.toList)] 9 b) ⟨2, 9, 0, (f : Int), (c : Int), bE, (b.length : Int)⟩).map _ = _
    rw [hst]
    rfl
  show (runStep (mput [(9, s.data.toList)] 9 b, [] ++ effs.map (fun _ => RP0)) (stpP (readE f c b.length)) >>= fun q => some q).bind _ = _
  rw [hrs]
  show (endF (mput [((9 : Int), s.data.toList)] 9 b) [⟨0, 9, 9, 0⟩]).map _ = _
  rw [show mput [((9 : Int), s.data.toList)] 9 b = [(9, b)] from rfl, end9]
  rfl
theorem map_last {α β : Type} {f : α → β} {rl : List α} {l : List β} {x : β} (h : rl.map f = l ++ [x]) : rl.length = l.length + 1 ∧ ∃ r, rl[l.length]? = some r ∧ f r = x := by
  have h1 : rl.length = l.length + 1 := by have := congrArg List.length h; simpa using this
  refine ⟨h1, ?_⟩
  have h2 : (rl.map f)[l.length]? = some x := by rw [h]; simp
  rw [List.getElem?_map] at h2
  obtain ⟨r, hr, hx⟩ := Option.map_eq_some_iff.1 h2
  exact ⟨r, hr, hx⟩
theorem execBytes_spec (s0 : ByteArray) (A : Option Addr) (c0 : Nat) (eds : List Edt) (at_ n : Int) (hl : eds.length ≤ 9223372036854775807) :
    Spec Try.prog 3 [.string s0, .slice A eds.length c0, .int .i64 at_, .int .i64 n] [] (fun F => RO F encEdt A eds) (fun v L => v = .bool true) := by
  refine spec_of Try.func3 rfl Try.ntmps3 fun F hF => ?_
  have ro := hF
  repeat (first | refine j_addN (by omega) rfl ?_ | refine j_subN (by omega) rfl ?_ | refine j_mulN (by omega) rfl ?_ | refine j_remN (by omega) rfl ?_ | refine j_addI (by omega) (by omega) rfl ?_ | refine j_subI (by omega) (by omega) rfl ?_ | refine j_op rfl ?_ | refine j_pickF rfl ?_ | refine j_pickT rfl ?_ | refine j_region ?_ | refine j_nil ?_ | refine j_then ?_ | refine j_mono (by assumption) ?_ | (refine j_seq fun K hK => ?_) | refine j_gdo rfl ?_ | refine j_gskip_t rfl ?_ | refine j_gskip_f rfl ?_ | refine j_gskip_u rfl ?_ | refine j_gspec rfl ?_ | refine j_block ?_ | refine j_ret ?_ | refine j_then_ret ?_ | refine j_in_ret ?_ | refine j_in_normal ?_ | refine j_exit ?_ | refine j_then_exit ?_ | refine j_in_exit ?_ | refine j_in_past ?_ | refine j_skip ?_ | refine j_cond_t ?_ | refine j_cond_f ?_ | refine j_store rfl ?_ | refine j_still_nil ?_)
  refine j_call works_spec rfl .nil (fun _ _ => trivial) ?_
  rintro _ _ ⟨rfl, rfl⟩
  simp only [List.cons_append, List.nil_append]
  repeat (first | refine j_addN (by omega) rfl ?_ | refine j_subN (by omega) rfl ?_ | refine j_mulN (by omega) rfl ?_ | refine j_remN (by omega) rfl ?_ | refine j_addI (by omega) (by omega) rfl ?_ | refine j_subI (by omega) (by omega) rfl ?_ | refine j_op rfl ?_ | refine j_pickF rfl ?_ | refine j_pickT rfl ?_ | refine j_region ?_ | refine j_nil ?_ | refine j_then ?_ | refine j_mono (by assumption) ?_ | (refine j_seq fun K hK => ?_) | refine j_gdo rfl ?_ | refine j_gskip_t rfl ?_ | refine j_gskip_f rfl ?_ | refine j_gskip_u rfl ?_ | refine j_gspec rfl ?_ | refine j_block ?_ | refine j_ret ?_ | refine j_then_ret ?_ | refine j_in_ret ?_ | refine j_in_normal ?_ | refine j_exit ?_ | refine j_then_exit ?_ | refine j_in_exit ?_ | refine j_in_past ?_ | refine j_skip ?_ | refine j_cond_t ?_ | refine j_cond_f ?_ | refine j_store rfl ?_ | refine j_still_nil ?_)
  refine j_call (short_spec s0 300) rfl .nil (fun _ _ => trivial) ?_
  rintro _ _ ⟨rfl, rfl⟩
  simp only [List.cons_append, List.nil_append]
  have hss := shortF_size s0 300
  generalize shortF s0 300 = s at *
  have hef := effects_spec 9 s.size A c0 eds hl
  obtain ⟨h1, h2⟩ := run_edits 9 (eds.take 60) [(9, s.data.toList)] s.data.toList s.size [] rfl (by rw [dsize])
  have hsz := effsF_size 9 s.size (eds.take 60) (by omega) (by omega)
  have hel := effsF_len 9 s.size (eds.take 60)
  have hok := effsF_ok 9 s.size (eds.take 60)
  have hap := fun f c => apply9 s (eds.take 60) f c
  rw [← h2] at hef
  clear h1
  have hel2 : (effsF 9 s.size (eds.take 60)).1.length ≤ 60 := by rw [hel, List.length_take]; omega
  have hbc := fun p => byte_content s.data.toList p (effsF 9 s.size (eds.take 60)).1.reverse
  rw [List.reverse_reverse] at hbc
  generalize contentF s.data.toList (effsF 9 s.size (eds.take 60)).1 = b at *
  rw [← h2] at hsz
  clear h2 hel
  generalize (effsF 9 s.size (eds.take 60)).1 = effs at *
  repeat (first | refine j_addN (by omega) rfl ?_ | refine j_subN (by omega) rfl ?_ | refine j_mulN (by omega) rfl ?_ | refine j_remN (by omega) rfl ?_ | refine j_addI (by omega) (by omega) rfl ?_ | refine j_subI (by omega) (by omega) rfl ?_ | refine j_op rfl ?_ | refine j_pickF rfl ?_ | refine j_pickT rfl ?_ | refine j_region ?_ | refine j_nil ?_ | refine j_then ?_ | refine j_mono (by assumption) ?_ | (refine j_seq fun K hK => ?_) | refine j_gdo rfl ?_ | refine j_gskip_t rfl ?_ | refine j_gskip_f rfl ?_ | refine j_gskip_u rfl ?_ | refine j_gspec rfl ?_ | refine j_block ?_ | refine j_ret ?_ | refine j_then_ret ?_ | refine j_in_ret ?_ | refine j_in_normal ?_ | refine j_exit ?_ | refine j_then_exit ?_ | refine j_in_exit ?_ | refine j_in_past ?_ | refine j_skip ?_ | refine j_cond_t ?_ | refine j_cond_f ?_ | refine j_store rfl ?_ | refine j_still_nil ?_)
  refine j_call hef rfl .nil (fun F' hF' => ro.ext hF') ?_
  rintro _ _ ⟨A1, c1, rfl, rfl⟩
  simp only [List.cons_append, List.nil_append]
  have hcl := clipF_range at_ 0 b.length (by omega)
  have hcs := clipped_spec at_ 0 b.length (by omega) (by omega) (by omega)
  obtain ⟨f, hf⟩ := Int.eq_ofNat_of_zero_le hcl.1
  rw [hf] at hcs hcl
  repeat (first | refine j_addN (by omega) rfl ?_ | refine j_subN (by omega) rfl ?_ | refine j_mulN (by omega) rfl ?_ | refine j_remN (by omega) rfl ?_ | refine j_addI (by omega) (by omega) rfl ?_ | refine j_subI (by omega) (by omega) rfl ?_ | refine j_op rfl ?_ | refine j_pickF rfl ?_ | refine j_pickT rfl ?_ | refine j_region ?_ | refine j_nil ?_ | refine j_then ?_ | refine j_mono (by assumption) ?_ | (refine j_seq fun K hK => ?_) | refine j_gdo rfl ?_ | refine j_gskip_t rfl ?_ | refine j_gskip_f rfl ?_ | refine j_gskip_u rfl ?_ | refine j_gspec rfl ?_ | refine j_block ?_ | refine j_ret ?_ | refine j_then_ret ?_ | refine j_in_ret ?_ | refine j_in_normal ?_ | refine j_exit ?_ | refine j_then_exit ?_ | refine j_in_exit ?_ | refine j_in_past ?_ | refine j_skip ?_ | refine j_cond_t ?_ | refine j_cond_f ?_ | refine j_store rfl ?_ | refine j_still_nil ?_)
  refine j_call hcs rfl .nil (fun _ _ => trivial) ?_
  rintro _ _ ⟨rfl, rfl⟩
  simp only [List.cons_append, List.nil_append]
  have hcl2 := clipF_range n 0 ((b.length - f : Nat) : Int) (by omega)
  have hcs2 := clipped_spec n 0 ((b.length - f : Nat) : Int) (by omega) (by omega) (by omega)
  obtain ⟨c, hc⟩ := Int.eq_ofNat_of_zero_le hcl2.1
  rw [hc] at hcs2 hcl2
  repeat (first | refine j_addN (by omega) rfl ?_ | refine j_subN (by omega) rfl ?_ | refine j_mulN (by omega) rfl ?_ | refine j_remN (by omega) rfl ?_ | refine j_addI (by omega) (by omega) rfl ?_ | refine j_subI (by omega) (by omega) rfl ?_ | refine j_op rfl ?_ | refine j_pickF rfl ?_ | refine j_pickT rfl ?_ | refine j_region ?_ | refine j_nil ?_ | refine j_then ?_ | refine j_mono (by assumption) ?_ | (refine j_seq fun K hK => ?_) | refine j_gdo rfl ?_ | refine j_gskip_t rfl ?_ | refine j_gskip_f rfl ?_ | refine j_gskip_u rfl ?_ | refine j_gspec rfl ?_ | refine j_block ?_ | refine j_ret ?_ | refine j_then_ret ?_ | refine j_in_ret ?_ | refine j_in_normal ?_ | refine j_exit ?_ | refine j_then_exit ?_ | refine j_in_exit ?_ | refine j_in_past ?_ | refine j_skip ?_ | refine j_cond_t ?_ | refine j_cond_f ?_ | refine j_store rfl ?_ | refine j_still_nil ?_)
  refine j_call hcs2 rfl .nil (fun _ _ => trivial) ?_
  rintro _ _ ⟨rfl, rfl⟩
  simp only [List.cons_append, List.nil_append]
  repeat (first | refine j_addN (by omega) rfl ?_ | refine j_subN (by omega) rfl ?_ | refine j_mulN (by omega) rfl ?_ | refine j_remN (by omega) rfl ?_ | refine j_addI (by omega) (by omega) rfl ?_ | refine j_subI (by omega) (by omega) rfl ?_ | refine j_op rfl ?_ | refine j_pickF rfl ?_ | refine j_pickT rfl ?_ | refine j_region ?_ | refine j_nil ?_ | refine j_then ?_ | refine j_mono (by assumption) ?_ | (refine j_seq fun K hK => ?_) | refine j_gdo rfl ?_ | refine j_gskip_t rfl ?_ | refine j_gskip_f rfl ?_ | refine j_gskip_u rfl ?_ | refine j_gspec rfl ?_ | refine j_block ?_ | refine j_ret ?_ | refine j_then_ret ?_ | refine j_in_ret ?_ | refine j_in_normal ?_ | refine j_exit ?_ | refine j_then_exit ?_ | refine j_in_exit ?_ | refine j_in_past ?_ | refine j_skip ?_ | refine j_cond_t ?_ | refine j_cond_f ?_ | refine j_store rfl ?_ | refine j_still_nil ?_)
  refine j_call (steps_spec A1 c1 effs (by omega)) rfl .nil (fun F' hF' => hF'.ro_own) ?_
  rintro _ _ ⟨A2, c2, rfl, rfl⟩
  simp only [List.cons_append, List.nil_append]
  have hml : (effs.map stpE).length = effs.length := List.length_map _
  rw [← hml]
  repeat (first | refine j_addN (by omega) rfl ?_ | refine j_subN (by omega) rfl ?_ | refine j_mulN (by omega) rfl ?_ | refine j_remN (by omega) rfl ?_ | refine j_addI (by omega) (by omega) rfl ?_ | refine j_subI (by omega) (by omega) rfl ?_ | refine j_op rfl ?_ | refine j_pickF rfl ?_ | refine j_pickT rfl ?_ | refine j_region ?_ | refine j_nil ?_ | refine j_then ?_ | refine j_mono (by assumption) ?_ | (refine j_seq fun K hK => ?_) | refine j_gdo rfl ?_ | refine j_gskip_t rfl ?_ | refine j_gskip_f rfl ?_ | refine j_gskip_u rfl ?_ | refine j_gspec rfl ?_ | refine j_block ?_ | refine j_ret ?_ | refine j_then_ret ?_ | refine j_in_ret ?_ | refine j_in_normal ?_ | refine j_exit ?_ | refine j_then_exit ?_ | refine j_in_exit ?_ | refine j_in_past ?_ | refine j_skip ?_ | refine j_cond_t ?_ | refine j_cond_f ?_ | refine j_store rfl ?_ | refine j_still_nil ?_)
  refine j_buildSlice rfl rfl rfl rfl fun b1 => ?_
  repeat (first | refine j_addN (by omega) rfl ?_ | refine j_subN (by omega) rfl ?_ | refine j_mulN (by omega) rfl ?_ | refine j_remN (by omega) rfl ?_ | refine j_addI (by omega) (by omega) rfl ?_ | refine j_subI (by omega) (by omega) rfl ?_ | refine j_op rfl ?_ | refine j_pickF rfl ?_ | refine j_pickT rfl ?_ | refine j_region ?_ | refine j_nil ?_ | refine j_then ?_ | refine j_mono (by assumption) ?_ | (refine j_seq fun K hK => ?_) | refine j_gdo rfl ?_ | refine j_gskip_t rfl ?_ | refine j_gskip_f rfl ?_ | refine j_gskip_u rfl ?_ | refine j_gspec rfl ?_ | refine j_block ?_ | refine j_ret ?_ | refine j_then_ret ?_ | refine j_in_ret ?_ | refine j_in_normal ?_ | refine j_exit ?_ | refine j_then_exit ?_ | refine j_in_exit ?_ | refine j_in_past ?_ | refine j_skip ?_ | refine j_cond_t ?_ | refine j_cond_f ?_ | refine j_store rfl ?_ | refine j_still_nil ?_)
  refine j_append (by first | rfl | simp) rfl rfl (by (try simp only [List.length_append, List.length_cons, List.length_nil]); omega) ?_
  intro A3 c3
  rw [show (effs.map stpE ++ [({ res := { code := 0, data := { data := #[] }, n := (c : Int), names := { A := none, c := 0, xs := [] }, kind := 0, size := 0 }, eff := { kind := 2, file := 9, gone := 0, at_ := (f : Int), n := (c : Int), data := { data := #[] }, size := (b.length : Int) } } : Stp)]) = effs.map stpE ++ [readE f c b.length] from rfl]
  repeat (first | refine j_addN (by omega) rfl ?_ | refine j_subN (by omega) rfl ?_ | refine j_mulN (by omega) rfl ?_ | refine j_remN (by omega) rfl ?_ | refine j_addI (by omega) (by omega) rfl ?_ | refine j_subI (by omega) (by omega) rfl ?_ | refine j_op rfl ?_ | refine j_pickF rfl ?_ | refine j_pickT rfl ?_ | refine j_region ?_ | refine j_nil ?_ | refine j_then ?_ | refine j_mono (by assumption) ?_ | (refine j_seq fun K hK => ?_) | refine j_gdo rfl ?_ | refine j_gskip_t rfl ?_ | refine j_gskip_f rfl ?_ | refine j_gskip_u rfl ?_ | refine j_gspec rfl ?_ | refine j_block ?_ | refine j_ret ?_ | refine j_then_ret ?_ | refine j_in_ret ?_ | refine j_in_normal ?_ | refine j_exit ?_ | refine j_then_exit ?_ | refine j_in_exit ?_ | refine j_in_past ?_ | refine j_skip ?_ | refine j_cond_t ?_ | refine j_cond_f ?_ | refine j_store rfl ?_ | refine j_still_nil ?_)
  refine j_buildSlice rfl rfl rfl rfl fun b2 => ?_
  repeat (first | refine j_addN (by omega) rfl ?_ | refine j_subN (by omega) rfl ?_ | refine j_mulN (by omega) rfl ?_ | refine j_remN (by omega) rfl ?_ | refine j_addI (by omega) (by omega) rfl ?_ | refine j_subI (by omega) (by omega) rfl ?_ | refine j_op rfl ?_ | refine j_pickF rfl ?_ | refine j_pickT rfl ?_ | refine j_region ?_ | refine j_nil ?_ | refine j_then ?_ | refine j_mono (by assumption) ?_ | (refine j_seq fun K hK => ?_) | refine j_gdo rfl ?_ | refine j_gskip_t rfl ?_ | refine j_gskip_f rfl ?_ | refine j_gskip_u rfl ?_ | refine j_gspec rfl ?_ | refine j_block ?_ | refine j_ret ?_ | refine j_then_ret ?_ | refine j_in_ret ?_ | refine j_in_normal ?_ | refine j_exit ?_ | refine j_then_exit ?_ | refine j_in_exit ?_ | refine j_in_past ?_ | refine j_skip ?_ | refine j_cond_t ?_ | refine j_cond_f ?_ | refine j_store rfl ?_ | refine j_still_nil ?_)
  refine j_buildSlice rfl rfl rfl rfl fun b3 => ?_
  refine j_le (LE.pick (c := cells b2 0 _) (by (first | exact Pick.here | exact Pick.there Pick.here | exact Pick.there (Pick.there Pick.here) | exact Pick.there (Pick.there (Pick.there Pick.here)) | exact Pick.there (Pick.there (Pick.there (Pick.there Pick.here))) | exact Pick.there (Pick.there (Pick.there (Pick.there (Pick.there Pick.here)))) | exact Pick.there (Pick.there (Pick.there (Pick.there (Pick.there (Pick.there Pick.here))))))) (own_of_cells (E := encSlt) (xs := [⟨0, 9, 9, 0⟩]) rfl rfl)) ?_
  refine j_le (LE.pick (c := cells b3 0 _) (by (first | exact Pick.here | exact Pick.there Pick.here | exact Pick.there (Pick.there Pick.here) | exact Pick.there (Pick.there (Pick.there Pick.here)) | exact Pick.there (Pick.there (Pick.there (Pick.there Pick.here))) | exact Pick.there (Pick.there (Pick.there (Pick.there (Pick.there Pick.here)))) | exact Pick.there (Pick.there (Pick.there (Pick.there (Pick.there (Pick.there Pick.here))))))) (own_of_cells (E := encS) (xs := [s]) rfl rfl)) ?_
  have hnames : ∀ x ∈ effs.map stpE ++ [readE f c b.length], x.res.names = ⟨none, 0, []⟩ := fun x hx => by
    rcases List.mem_append.1 hx with hx | hx
    · obtain ⟨e, _, rfl⟩ := List.mem_map.1 hx
      rfl
    · rcases List.mem_cons.1 hx with rfl | hx
      · rfl
      · cases hx
  have ha := fun (A B C : Option Addr) (d0 d d1 : Nat) => apply_spec A B C d0 d d1 [⟨0, 9, 9, 0⟩] (effs.map stpE ++ [readE f c b.length]) [s] (by decide) (by simp; omega) (fun x hx => by rw [hnames x hx]; decide) (fun x hx => by rcases List.mem_cons.1 hx with rfl | hx; omega; cases hx)
  rw [hap f c (by omega)] at ha
  refine j_call (ha _ _ _ _ _ _) rfl .nil (fun F' hF' => ⟨hF'.ro_own, hF'.ro_own, hF'.ro_own, fun x hx => by rw [hnames x hx]; exact RO.nil⟩) ?_
  rintro _ _ ⟨A4, c4, rl, A5, c5, hrl, rfl, rfl⟩
  simp only [List.cons_append, List.nil_append]
  obtain ⟨hrl1, rr, hrr, hrp⟩ := map_last hrl
  rw [List.length_map] at hrl1 hrr
  have hbs := bstr_size b
  have g1 : Dec ((0 : Int) ≠ 0) false := dec_f (by simp)
  have g2 : Dec ((([bstr b].length : Nat) : Int) ≠ 1) false := dec_f (by simp)
  have g3 : Dec (((bstr b).size : Int) ≠ (b.length : Int)) false := dec_f (by rw [hbs]; simp)
  have g4 : Dec ((rl.length : Int) ≠ ((effs.length + 1 : Nat) : Int)) false := dec_f (by rw [hrl1]; simp)
  have a1 : At [bstr b] 0 (bstr b) := ⟨rfl⟩
  have f1 : Ft (0 < [bstr b].length) := ⟨by simp⟩
  have f2 : Ft (effs.length + 1 ≤ 9223372036854775807) := ⟨by omega⟩
  repeat (first | refine j_addN (by omega) rfl ?_ | refine j_subN (by omega) rfl ?_ | refine j_mulN (by omega) rfl ?_ | refine j_remN (by omega) rfl ?_ | refine j_addI (by omega) (by omega) rfl ?_ | refine j_subI (by omega) (by omega) rfl ?_ | refine j_op rfl ?_ | refine j_pickF rfl ?_ | refine j_pickT rfl ?_ | refine j_region ?_ | refine j_nil ?_ | refine j_then ?_ | refine j_mono (by assumption) ?_ | (refine j_seq fun K hK => ?_) | refine j_gdo rfl ?_ | refine j_gskip_t rfl ?_ | refine j_gskip_f rfl ?_ | refine j_gskip_u rfl ?_ | refine j_gspec rfl ?_ | refine j_block ?_ | refine j_ret ?_ | refine j_then_ret ?_ | refine j_in_ret ?_ | refine j_in_normal ?_ | refine j_exit ?_ | refine j_then_exit ?_ | refine j_in_exit ?_ | refine j_in_past ?_ | refine j_skip ?_ | refine j_cond_t ?_ | refine j_cond_f ?_ | refine j_store rfl ?_ | refine j_still_nil ?_)
  refine j_alloc rfl fun b4 => ?_
  repeat (first | refine j_addN (by omega) rfl ?_ | refine j_subN (by omega) rfl ?_ | refine j_mulN (by omega) rfl ?_ | refine j_remN (by omega) rfl ?_ | refine j_addI (by omega) (by omega) rfl ?_ | refine j_subI (by omega) (by omega) rfl ?_ | refine j_op rfl ?_ | refine j_pickF rfl ?_ | refine j_pickT rfl ?_ | refine j_region ?_ | refine j_nil ?_ | refine j_then ?_ | refine j_mono (by assumption) ?_ | (refine j_seq fun K hK => ?_) | refine j_gdo rfl ?_ | refine j_gskip_t rfl ?_ | refine j_gskip_f rfl ?_ | refine j_gskip_u rfl ?_ | refine j_gspec rfl ?_ | refine j_block ?_ | refine j_ret ?_ | refine j_then_ret ?_ | refine j_in_ret ?_ | refine j_in_normal ?_ | refine j_exit ?_ | refine j_then_exit ?_ | refine j_in_exit ?_ | refine j_in_past ?_ | refine j_skip ?_ | refine j_cond_t ?_ | refine j_cond_f ?_ | refine j_store rfl ?_ | refine j_still_nil ?_)
  refine j_call (num_spec _) rfl .nil (fun _ _ => trivial) ?_
  rintro _ _ ⟨rfl, rfl⟩
  simp only [List.cons_append, List.nil_append]
  rw [hml]
  repeat (first | refine j_addN (by omega) rfl ?_ | refine j_subN (by omega) rfl ?_ | refine j_mulN (by omega) rfl ?_ | refine j_remN (by omega) rfl ?_ | refine j_addI (by omega) (by omega) rfl ?_ | refine j_subI (by omega) (by omega) rfl ?_ | refine j_op rfl ?_ | refine j_pickF rfl ?_ | refine j_pickT rfl ?_ | refine j_region ?_ | refine j_nil ?_ | refine j_then ?_ | refine j_mono (by assumption) ?_ | (refine j_seq fun K hK => ?_) | refine j_gdo rfl ?_ | refine j_gskip_t rfl ?_ | refine j_gskip_f rfl ?_ | refine j_gskip_u rfl ?_ | refine j_gspec rfl ?_ | refine j_block ?_ | refine j_ret ?_ | refine j_then_ret ?_ | refine j_in_ret ?_ | refine j_in_normal ?_ | refine j_exit ?_ | refine j_then_exit ?_ | refine j_in_exit ?_ | refine j_in_past ?_ | refine j_skip ?_ | refine j_cond_t ?_ | refine j_cond_f ?_ | refine j_store rfl ?_ | refine j_still_nil ?_)
  refine j_loop (fun m e L => ∃ k, k ≤ b.length ∧ m = b.length - k ∧ e = [(10, .string s), (11, .slice A1 effs.length c1), (12, .int .i64 (b.length : Int)), (13, .int .i64 (f : Int)), (14, .int .i64 (c : Int)), (16, .pointer (some ⟨b4, 0, none⟩)), (18, .int .i64 (k : Int))] ∧ L = [cells b4 0 [.slice A4 rl.length c4, .slice A5 [bstr b].length c5], own encRes A4 c4 rl, own encS A5 c5 [bstr b], own encEff A1 c1 effs]) b.length _ _ ⟨0, by omega, rfl, rfl, rfl⟩ (by (first | exact sub_nil | (repeat' (first | exact sub_nil | refine sub_cons inferInstance rfl ?_)))) (LE.sub (by (repeat' (first | exact Pick.here | apply Pick.there | apply Picks.cons | exact Picks.nil)))) ?_
  rintro m e L ⟨k, hk, rfl, rfl, rfl⟩
  repeat (first | refine j_addN (by omega) rfl ?_ | refine j_subN (by omega) rfl ?_ | refine j_mulN (by omega) rfl ?_ | refine j_remN (by omega) rfl ?_ | refine j_addI (by omega) (by omega) rfl ?_ | refine j_subI (by omega) (by omega) rfl ?_ | refine j_op rfl ?_ | refine j_pickF rfl ?_ | refine j_pickT rfl ?_ | refine j_region ?_ | refine j_nil ?_ | refine j_then ?_ | refine j_mono (by assumption) ?_ | (refine j_seq fun K hK => ?_) | refine j_gdo rfl ?_ | refine j_gskip_t rfl ?_ | refine j_gskip_f rfl ?_ | refine j_gskip_u rfl ?_ | refine j_gspec rfl ?_ | refine j_block ?_ | refine j_ret ?_ | refine j_then_ret ?_ | refine j_in_ret ?_ | refine j_in_normal ?_ | refine j_exit ?_ | refine j_then_exit ?_ | refine j_in_exit ?_ | refine j_in_past ?_ | refine j_skip ?_ | refine j_cond_t ?_ | refine j_cond_f ?_ | refine j_store rfl ?_ | refine j_still_nil ?_)
  refine j_cond (fun h => ?_) (fun h => ?_)
  · simp only [Bool.or_eq_true, Bool.and_eq_true, Bool.or_eq_false_iff, Bool.and_eq_false_iff, Bool.not_eq_true', Bool.not_eq_false', decide_eq_true_eq, decide_eq_false_iff_not, ne_eq, Decidable.not_not] at h
    have hb := atB_of (s := bstr b) (k := k) (by omega)
    rw [bstr_list] at hb
    have hbk := hbc k
    have hby := byteAt_spec s A1 c1 effs k (by omega) (by omega) (fun e he => ⟨(hok e he).2.1, (hok e he).2.2⟩)
    rw [← hbk] at hby
    have g5 : Dec (((b.getD k 0).toNat : Int) ≠ ((b.getD k 0).toNat : Int)) false := dec_f (by simp)
    repeat (first | refine j_addN (by omega) rfl ?_ | refine j_subN (by omega) rfl ?_ | refine j_mulN (by omega) rfl ?_ | refine j_remN (by omega) rfl ?_ | refine j_addI (by omega) (by omega) rfl ?_ | refine j_subI (by omega) (by omega) rfl ?_ | refine j_op rfl ?_ | refine j_pickF rfl ?_ | refine j_pickT rfl ?_ | refine j_region ?_ | refine j_nil ?_ | refine j_then ?_ | refine j_mono (by assumption) ?_ | (refine j_seq fun K hK => ?_) | refine j_gdo rfl ?_ | refine j_gskip_t rfl ?_ | refine j_gskip_f rfl ?_ | refine j_gskip_u rfl ?_ | refine j_gspec rfl ?_ | refine j_block ?_ | refine j_ret ?_ | refine j_then_ret ?_ | refine j_in_ret ?_ | refine j_in_normal ?_ | refine j_exit ?_ | refine j_then_exit ?_ | refine j_in_exit ?_ | refine j_in_past ?_ | refine j_skip ?_ | refine j_cond_t ?_ | refine j_cond_f ?_ | refine j_store rfl ?_ | refine j_still_nil ?_)
    refine j_region_hoist (.q 0 (.q 1 (.q 2 (.q 3 (.q 4 (.q 5 (.q 6 (.q 7 (.q 8 (.alt 9 (.q 10 .done) .no)))))))))) _ mixed (by kernel_rfl) (by kernel_rfl) (LE.refl _) fun hLE => ?_
    simp only [lay, List.getD_cons_zero, List.getD_cons_succ]
    repeat (first | refine j_hq (by assumption) rfl ?_ | refine j_hq_pickF (by assumption) rfl ?_ | refine j_hq_pickT (by assumption) rfl ?_ | refine j_hq_gdo (by assumption) rfl ?_ | refine j_hq_gskip_t (by assumption) rfl ?_ | refine j_hq_gskip_f (by assumption) rfl ?_ | refine j_hq_gskip_u (by assumption) rfl ?_ | refine j_hq_gspec (by assumption) rfl ?_)
    refine j_he ?_
    refine j_call hby rfl .nil (fun F' hF' => hF'.ro_own) ?_
    rintro _ _ ⟨rfl, rfl⟩
    simp only [List.cons_append, List.nil_append]
    repeat (first | refine j_addN (by omega) rfl ?_ | refine j_subN (by omega) rfl ?_ | refine j_mulN (by omega) rfl ?_ | refine j_remN (by omega) rfl ?_ | refine j_addI (by omega) (by omega) rfl ?_ | refine j_subI (by omega) (by omega) rfl ?_ | refine j_op rfl ?_ | refine j_pickF rfl ?_ | refine j_pickT rfl ?_ | refine j_region ?_ | refine j_nil ?_ | refine j_then ?_ | refine j_mono (by assumption) ?_ | (refine j_seq fun K hK => ?_) | refine j_gdo rfl ?_ | refine j_gskip_t rfl ?_ | refine j_gskip_f rfl ?_ | refine j_gskip_u rfl ?_ | refine j_gspec rfl ?_ | refine j_block ?_ | refine j_ret ?_ | refine j_then_ret ?_ | refine j_in_ret ?_ | refine j_in_normal ?_ | refine j_exit ?_ | refine j_then_exit ?_ | refine j_in_exit ?_ | refine j_in_past ?_ | refine j_skip ?_ | refine j_cond_t ?_ | refine j_cond_f ?_ | refine j_store rfl ?_ | refine j_still_nil ?_)
    (refine j_hn (LE.sub (by (repeat' (first | exact Pick.here | apply Pick.there | apply Picks.cons | exact Picks.nil)))) fun hLE => ?_)
    repeat (first | refine j_hq (by assumption) rfl ?_ | refine j_hq_pickF (by assumption) rfl ?_ | refine j_hq_pickT (by assumption) rfl ?_ | refine j_hq_gdo (by assumption) rfl ?_ | refine j_hq_gskip_t (by assumption) rfl ?_ | refine j_hq_gskip_f (by assumption) rfl ?_ | refine j_hq_gskip_u (by assumption) rfl ?_ | refine j_hq_gspec (by assumption) rfl ?_)
    refine j_hend ?_
    repeat (first | refine j_addN (by omega) rfl ?_ | refine j_subN (by omega) rfl ?_ | refine j_mulN (by omega) rfl ?_ | refine j_remN (by omega) rfl ?_ | refine j_addI (by omega) (by omega) rfl ?_ | refine j_subI (by omega) (by omega) rfl ?_ | refine j_op rfl ?_ | refine j_pickF rfl ?_ | refine j_pickT rfl ?_ | refine j_region ?_ | refine j_nil ?_ | refine j_then ?_ | refine j_mono (by assumption) ?_ | (refine j_seq fun K hK => ?_) | refine j_gdo rfl ?_ | refine j_gskip_t rfl ?_ | refine j_gskip_f rfl ?_ | refine j_gskip_u rfl ?_ | refine j_gspec rfl ?_ | refine j_block ?_ | refine j_ret ?_ | refine j_then_ret ?_ | refine j_in_ret ?_ | refine j_in_normal ?_ | refine j_exit ?_ | refine j_then_exit ?_ | refine j_in_exit ?_ | refine j_in_past ?_ | refine j_skip ?_ | refine j_cond_t ?_ | refine j_cond_f ?_ | refine j_store rfl ?_ | refine j_still_nil ?_ | (refine j_buildSlice rfl rfl rfl rfl fun bx => ?_) | (refine j_alloc rfl fun bx => ?_) | (refine j_box rfl fun bx => ?_))
    repeat (first | refine j_addN (by omega) rfl ?_ | refine j_subN (by omega) rfl ?_ | refine j_mulN (by omega) rfl ?_ | refine j_remN (by omega) rfl ?_ | refine j_addI (by omega) (by omega) rfl ?_ | refine j_subI (by omega) (by omega) rfl ?_ | refine j_op rfl ?_ | refine j_pickF rfl ?_ | refine j_pickT rfl ?_ | refine j_region ?_ | refine j_nil ?_ | refine j_then ?_ | refine j_mono (by assumption) ?_ | (refine j_seq fun K hK => ?_) | refine j_gdo rfl ?_ | refine j_gskip_t rfl ?_ | refine j_gskip_f rfl ?_ | refine j_gskip_u rfl ?_ | refine j_gspec rfl ?_ | refine j_block ?_ | refine j_ret ?_ | refine j_then_ret ?_ | refine j_in_ret ?_ | refine j_in_normal ?_ | refine j_exit ?_ | refine j_then_exit ?_ | refine j_in_exit ?_ | refine j_in_past ?_ | refine j_skip ?_ | refine j_cond_t ?_ | refine j_cond_f ?_ | refine j_store rfl ?_ | refine j_still_nil ?_)
    exact j_back (b.length - (k + 1)) _ _ ⟨k + 1, by omega, rfl, rfl, rfl⟩ (by omega) (by (first | exact sub_nil | (repeat' (first | exact sub_nil | refine sub_cons inferInstance rfl ?_)))) (LE.sub (by (repeat' (first | exact Pick.here | apply Pick.there | apply Picks.cons | exact Picks.nil))))
  · simp only [Bool.or_eq_true, Bool.and_eq_true, Bool.or_eq_false_iff, Bool.and_eq_false_iff, Bool.not_eq_true', Bool.not_eq_false', decide_eq_true_eq, decide_eq_false_iff_not, ne_eq, Decidable.not_not] at h
    have a2 : At rl effs.length rr := ⟨hrr⟩
    have f3 : Ft (effs.length < rl.length) := ⟨by omega⟩
    have f4 : Ft (f ≤ f + c) := ⟨by omega⟩
    have f5 : Ft (f + c ≤ (bstr b).size) := ⟨by omega⟩
    have f6 : Ft (f + c ≤ 9223372036854775807) := ⟨by omega⟩
    have g6 : Dec (rr.data = (bstr b).extract f (f + c)) true := dec_t (by rw [bstr_extract]; exact congrArg RP.data hrp)
    have g7 : Dec (rr.n = (c : Int)) true := dec_t (congrArg RP.n hrp)
    repeat (first | refine j_addN (by omega) rfl ?_ | refine j_subN (by omega) rfl ?_ | refine j_mulN (by omega) rfl ?_ | refine j_remN (by omega) rfl ?_ | refine j_addI (by omega) (by omega) rfl ?_ | refine j_subI (by omega) (by omega) rfl ?_ | refine j_op rfl ?_ | refine j_pickF rfl ?_ | refine j_pickT rfl ?_ | refine j_region ?_ | refine j_nil ?_ | refine j_then ?_ | refine j_mono (by assumption) ?_ | (refine j_seq fun K hK => ?_) | refine j_gdo rfl ?_ | refine j_gskip_t rfl ?_ | refine j_gskip_f rfl ?_ | refine j_gskip_u rfl ?_ | refine j_gspec rfl ?_ | refine j_block ?_ | refine j_ret ?_ | refine j_then_ret ?_ | refine j_in_ret ?_ | refine j_in_normal ?_ | refine j_exit ?_ | refine j_then_exit ?_ | refine j_in_exit ?_ | refine j_in_past ?_ | refine j_skip ?_ | refine j_cond_t ?_ | refine j_cond_f ?_ | refine j_store rfl ?_ | refine j_still_nil ?_)
    refine j_region_still mixed (by kernel_rfl) ?_
    repeat (first | refine j_addN (by omega) rfl ?_ | refine j_subN (by omega) rfl ?_ | refine j_mulN (by omega) rfl ?_ | refine j_remN (by omega) rfl ?_ | refine j_addI (by omega) (by omega) rfl ?_ | refine j_subI (by omega) (by omega) rfl ?_ | refine j_op rfl ?_ | refine j_pickF rfl ?_ | refine j_pickT rfl ?_ | refine j_region ?_ | refine j_nil ?_ | refine j_then ?_ | refine j_mono (by assumption) ?_ | (refine j_seq fun K hK => ?_) | refine j_gdo rfl ?_ | refine j_gskip_t rfl ?_ | refine j_gskip_f rfl ?_ | refine j_gskip_u rfl ?_ | refine j_gspec rfl ?_ | refine j_block ?_ | refine j_ret ?_ | refine j_then_ret ?_ | refine j_in_ret ?_ | refine j_in_normal ?_ | refine j_exit ?_ | refine j_then_exit ?_ | refine j_in_exit ?_ | refine j_in_past ?_ | refine j_skip ?_ | refine j_cond_t ?_ | refine j_cond_f ?_ | refine j_store rfl ?_ | refine j_still_nil ?_)
    (first | refine j_done (.inl rfl) ?_ | refine j_done (.inr rfl) ?_ | refine j_doneM (.inl rfl) ?_ | refine j_doneM (.inr rfl) ?_)
    exact ⟨_, rfl, LE.nil⟩
/-! ### Its arguments -/
theorem opn_edt : Opn Try.prog encEdt 54 (fun _ _ => True) :=
  opn_iso (E := encPair encB (encPair encI (encPair encI encS))) (opn_struct Try.underlying54 (by kernel_rfl) (opnL_cons rfl (opn_bool Try.underlying4 (by kernel_rfl)) (opnL_cons rfl (opn_int Try.underlying3 (by kernel_rfl)) (opnL_cons rfl (opn_int Try.underlying3 (by kernel_rfl)) (opnL_one rfl (opn_string Try.underlying9 (by kernel_rfl)))))))
    (fun v => ⟨v.1, v.2.1, v.2.2.1, v.2.2.2⟩) rfl (fun v => rfl) (fun _ _ _ => trivial)
theorem open_execBytes_0 : Opn Try.prog encS 9 StrG := opn_string Try.underlying9 (by kernel_rfl)
theorem open_execBytes_1 : Opn Try.prog (encSl Edt) 22 (SlG encEdt 40 fun _ _ => True) := opn_slice Try.underlying22 (by kernel_rfl) (by kernel_rfl) opn_edt
theorem open_execBytes_2 : Opn Try.prog encI 3 IntG := opn_int Try.underlying3 (by kernel_rfl)
theorem open_execBytes_3 : Opn Try.prog encI 3 IntG := opn_int Try.underlying3 (by kernel_rfl)
theorem execBytes_calls (x0 : ByteArray) (x1 : Sl Edt) (x2 x3 : Int) (w : World) (g0 : StrG w x0) (g1 : SlG encEdt 40 (fun _ _ => True) w x1) (g2 : IntG w x2) (g3 : IntG w x3) :
    Calls Try.prog 3 #[.string x0, .slice x1.A x1.xs.length x1.c, .int .i64 x2, .int .i64 x3] w fun e w' => e = .returned (.bool true) ∧ Below w.heap.size w w' :=
  (execBytes_spec x0 x1.A x1.c x1.xs x2 x3 g1.2.2.2.1).law w g1.1.ro
end Go.Proofs.Ytcoohckdnefacaa.S
