/- pool: PoolPlays and its arguments -/
import Derived.Test.YtjmicpkinflofaaDoorQP
import Derived.Test.YtjmicpkinflofaaDoorRows
import Derived.Lib.LaidU8
import Derived.MakeChecks
namespace Go.Proofs.YtjmicpkinflofaaDoor.S
open Go.RowKit
set_option linter.unusedVariables false
set_option linter.unusedSimpArgs false
set_option maxRecDepth 100000
set_option maxHeartbeats 4000000
set_option synthInstance.maxHeartbeats 400000
set_option synthInstance.maxSize 4000
attribute [local irreducible] wpList Code.wp Exit.then Exit.inBlock stillR bodyPost hR J Back Mid
def ps0 : List Pc := [(none, none, none), (none, none, none), (none, none, none)]
theorem LE.bench0 {b : Nat} {M : List Hp} : LE (cells b 0 [.pointer none, .pointer none, .pointer none, .pointer none, .pointer none, .pointer none, .slice none 0 0, .int .i64 0] :: M) (BL b ps0 none 0 [] 0 ++ M) := by
  have h1 : ∀ M : List Hp, LE M (placeR (none, none, none) :: M) := fun M => LE.trans LE.optNone (LE.trans LE.optNone LE.placeIn)
  have h2 : ∀ M : List Hp, LE M (allR placeR ps0 :: M) := fun M => by
    refine LE.trans (LE.allNil (R := placeR)) ?_
    refine LE.trans (h1 _) (LE.trans (LE.allIn (R := placeR) (x := (none, none, none)) (m := []) (.refl _)) ?_)
    refine LE.trans (h1 _) (LE.trans (LE.allIn (R := placeR) (x := (none, none, none)) (m := [(none, none, none)]) (.refl _)) ?_)
    refine LE.trans (h1 _) (LE.allIn (R := placeR) (x := (none, none, none)) (m := [(none, none, none), (none, none, none)]) (.refl _))
  unfold BL
  rw [show benchV (own1 ps0) (ref1 ps0) (.slice none ([] : List Kp).length 0) (.int .i64 0) = [.pointer none, .pointer none, .pointer none, .pointer none, .pointer none, .pointer none, .slice none 0 0, .int .i64 0] from benchV_lit]
  refine LE.cons ?_
  refine LE.trans (h2 _) ?_
  refine LE.trans (LE.allNil (R := keptR)) ?_
  exact own_nil encKp
theorem poolPlays_spec (A : Option Addr) (c : Nat) (script : List POp) (hl : script.length ≤ 1048576) (hb : ∀ o ∈ script, o.st.1.xs.length * 48 ≤ 140737488351232 ∧ o.st.2.xs.length * 8 ≤ 140737488351232) :
    Spec Tryd.prog 3 [.slice A script.length c] [] (fun F => Tab F ∧ RO F encPOp A script ∧ ∀ o ∈ script, RO F encObj o.st.1.A o.st.1.xs ∧ RO F encI o.st.2.A o.st.2.xs) (fun v L => v = .bool true) := by
  refine spec_of Tryd.func3 rfl Tryd.ntmps3 fun F hF => ?_
  obtain ⟨tab, ro1, ro2⟩ := hF
  repeat (first | refine j_addN (by omega) rfl ?_ | refine j_subN (by omega) rfl ?_ | refine j_addI (by omega) (by omega) rfl ?_ | refine j_subI (by omega) (by omega) rfl ?_ | refine j_op rfl ?_ | refine j_pickF rfl ?_ | refine j_pickT rfl ?_ | refine j_region ?_ | refine j_nil ?_ | refine j_then ?_ | refine j_mono (by assumption) ?_ | (refine j_seq fun K hK => ?_) | refine j_gdo rfl ?_ | refine j_gskip_t rfl ?_ | refine j_gskip_f rfl ?_ | refine j_gskip_u rfl ?_ | refine j_gspec rfl ?_ | refine j_block ?_ | refine j_ret ?_ | refine j_then_ret ?_ | refine j_in_ret ?_ | refine j_in_normal ?_ | refine j_exit ?_ | refine j_then_exit ?_ | refine j_in_exit ?_ | refine j_in_past ?_ | refine j_skip ?_ | refine j_cond_t ?_ | refine j_cond_f ?_ | refine j_store rfl ?_ | refine j_still_nil ?_)
  refine j_box rfl fun b3 => ?_
  repeat (first | refine j_addN (by omega) rfl ?_ | refine j_subN (by omega) rfl ?_ | refine j_addI (by omega) (by omega) rfl ?_ | refine j_subI (by omega) (by omega) rfl ?_ | refine j_op rfl ?_ | refine j_pickF rfl ?_ | refine j_pickT rfl ?_ | refine j_region ?_ | refine j_nil ?_ | refine j_then ?_ | refine j_mono (by assumption) ?_ | (refine j_seq fun K hK => ?_) | refine j_gdo rfl ?_ | refine j_gskip_t rfl ?_ | refine j_gskip_f rfl ?_ | refine j_gskip_u rfl ?_ | refine j_gspec rfl ?_ | refine j_block ?_ | refine j_ret ?_ | refine j_then_ret ?_ | refine j_in_ret ?_ | refine j_in_normal ?_ | refine j_exit ?_ | refine j_then_exit ?_ | refine j_in_exit ?_ | refine j_in_past ?_ | refine j_skip ?_ | refine j_cond_t ?_ | refine j_cond_f ?_ | refine j_store rfl ?_ | refine j_still_nil ?_)
  refine j_le LE.bench0 ?_
  have hp0 := plays_spec b3 ps0 none 0 [] 0 rfl (fun k h => by cases h) (by omega) ⟨1, 0, 3, 2, 0, ⟨#[]⟩, ⟨#[]⟩, (⟨none, 0, []⟩, ⟨none, 0, []⟩)⟩ (Nat.zero_le _) (Nat.zero_le _) (by simp)
  unfold ptr opV BL at hp0
  unfold BL
  simp only [List.cons_append, List.nil_append]
  refine j_call hp0 rfl (by (repeat' (first | exact Pick.here | apply Pick.there | apply Picks.cons | exact Picks.nil))) (fun F' hF' => ⟨tab.ext hF', RO.nil, RO.nil⟩) ?_
  rintro _ _ ⟨rfl, ps, kA, kc, book, m, w1, w2, w3, w4, rfl⟩
  unfold BL
  simp only [List.cons_append, List.nil_append]
  repeat (first | refine j_addN (by omega) rfl ?_ | refine j_subN (by omega) rfl ?_ | refine j_addI (by omega) (by omega) rfl ?_ | refine j_subI (by omega) (by omega) rfl ?_ | refine j_op rfl ?_ | refine j_pickF rfl ?_ | refine j_pickT rfl ?_ | refine j_region ?_ | refine j_nil ?_ | refine j_then ?_ | refine j_mono (by assumption) ?_ | (refine j_seq fun K hK => ?_) | refine j_gdo rfl ?_ | refine j_gskip_t rfl ?_ | refine j_gskip_f rfl ?_ | refine j_gskip_u rfl ?_ | refine j_gspec rfl ?_ | refine j_block ?_ | refine j_ret ?_ | refine j_then_ret ?_ | refine j_in_ret ?_ | refine j_in_normal ?_ | refine j_exit ?_ | refine j_then_exit ?_ | refine j_in_exit ?_ | refine j_in_past ?_ | refine j_skip ?_ | refine j_cond_t ?_ | refine j_cond_f ?_ | refine j_store rfl ?_ | refine j_still_nil ?_)
  refine j_loop (fun mm e L => ∃ i ps kA kc book m, i ≤ script.length ∧ mm = script.length - i ∧ (ps.length = 3 ∧ (∀ k ∈ book, KpOk k) ∧ rngI m ∧ book.length ≤ 3 * i + 3) ∧ e = [(0, .slice A script.length c), (3, .pointer (some ⟨b3, 0, none⟩)), (5, .int .i64 (i : Int))] ∧ L = [cells b3 0 (benchV (own1 ps) (ref1 ps) (.slice kA book.length kc) (.int .i64 m)), own encKp kA kc book, allR keptR book, allR placeR ps]) script.length _ _ ⟨0, ps, kA, kc, book, m, by omega, rfl, ⟨w1, w2, w3, by simpa using w4⟩, rfl, rfl⟩ (by (first | exact sub_nil | (repeat' (first | exact sub_nil | refine sub_cons inferInstance rfl ?_)))) (LE.sub (by (repeat' (first | exact Pick.here | apply Pick.there | apply Picks.cons | exact Picks.nil)))) ?_
  rintro mm e L ⟨i, ps, kA, kc, book, m, hi, rfl, ⟨w1, w2, w3, w4⟩, rfl, rfl⟩
  repeat (first | refine j_addN (by omega) rfl ?_ | refine j_subN (by omega) rfl ?_ | refine j_addI (by omega) (by omega) rfl ?_ | refine j_subI (by omega) (by omega) rfl ?_ | refine j_op rfl ?_ | refine j_pickF rfl ?_ | refine j_pickT rfl ?_ | refine j_region ?_ | refine j_nil ?_ | refine j_then ?_ | refine j_mono (by assumption) ?_ | (refine j_seq fun K hK => ?_) | refine j_gdo rfl ?_ | refine j_gskip_t rfl ?_ | refine j_gskip_f rfl ?_ | refine j_gskip_u rfl ?_ | refine j_gspec rfl ?_ | refine j_block ?_ | refine j_ret ?_ | refine j_then_ret ?_ | refine j_in_ret ?_ | refine j_in_normal ?_ | refine j_exit ?_ | refine j_then_exit ?_ | refine j_in_exit ?_ | refine j_in_past ?_ | refine j_skip ?_ | refine j_cond_t ?_ | refine j_cond_f ?_ | refine j_store rfl ?_ | refine j_still_nil ?_)
  refine j_cond (fun h => ?_) (fun h => ?_)
  · simp only [Bool.or_eq_true, Bool.and_eq_true, Bool.or_eq_false_iff, Bool.and_eq_false_iff, Bool.not_eq_true', Bool.not_eq_false', decide_eq_true_eq, decide_eq_false_iff_not, ne_eq, Decidable.not_not] at h
    have hx := List.getElem?_eq_getElem (show i < script.length by omega)
    have hxm : script[i] ∈ script := List.getElem_mem _
    generalize script[i] = x at hx hxm
    have hat : At script i x := ⟨hx⟩
    obtain ⟨hb1, hb2⟩ := hb x hxm
    obtain ⟨rx1, rx2⟩ := ro2 x hxm
    have hps := plays_spec b3 ps kA kc book m w1 w2 w3 x hb1 hb2 (by omega)
    unfold ptr opV BL at hps
    repeat (first | refine j_addN (by omega) rfl ?_ | refine j_subN (by omega) rfl ?_ | refine j_addI (by omega) (by omega) rfl ?_ | refine j_subI (by omega) (by omega) rfl ?_ | refine j_op rfl ?_ | refine j_pickF rfl ?_ | refine j_pickT rfl ?_ | refine j_region ?_ | refine j_nil ?_ | refine j_then ?_ | refine j_mono (by assumption) ?_ | (refine j_seq fun K hK => ?_) | refine j_gdo rfl ?_ | refine j_gskip_t rfl ?_ | refine j_gskip_f rfl ?_ | refine j_gskip_u rfl ?_ | refine j_gspec rfl ?_ | refine j_block ?_ | refine j_ret ?_ | refine j_then_ret ?_ | refine j_in_ret ?_ | refine j_in_normal ?_ | refine j_exit ?_ | refine j_then_exit ?_ | refine j_in_exit ?_ | refine j_in_past ?_ | refine j_skip ?_ | refine j_cond_t ?_ | refine j_cond_f ?_ | refine j_store rfl ?_ | refine j_still_nil ?_)
    refine j_call hps rfl (by (repeat' (first | exact Pick.here | apply Pick.there | apply Picks.cons | exact Picks.nil))) (fun F' hF' => ⟨tab.ext hF', rx1.ext hF', rx2.ext hF'⟩) ?_
    rintro _ _ ⟨rfl, ps2, kA2, kc2, book2, m2, v1, v2, v3, v4, rfl⟩
    unfold BL
    simp only [List.cons_append, List.nil_append]
    have hst := stillV_spec b3 (own1 ps2) (ref1 ps2) (by rw [List.length_map]; exact v1) (by rw [List.length_map]; exact v1) (.int .i64 m2) kA2 kc2 book2 v2 (by omega)
    unfold ptr at hst
    repeat (first | refine j_addN (by omega) rfl ?_ | refine j_subN (by omega) rfl ?_ | refine j_addI (by omega) (by omega) rfl ?_ | refine j_subI (by omega) (by omega) rfl ?_ | refine j_op rfl ?_ | refine j_pickF rfl ?_ | refine j_pickT rfl ?_ | refine j_region ?_ | refine j_nil ?_ | refine j_then ?_ | refine j_mono (by assumption) ?_ | (refine j_seq fun K hK => ?_) | refine j_gdo rfl ?_ | refine j_gskip_t rfl ?_ | refine j_gskip_f rfl ?_ | refine j_gskip_u rfl ?_ | refine j_gspec rfl ?_ | refine j_block ?_ | refine j_ret ?_ | refine j_then_ret ?_ | refine j_in_ret ?_ | refine j_in_normal ?_ | refine j_exit ?_ | refine j_then_exit ?_ | refine j_in_exit ?_ | refine j_in_past ?_ | refine j_skip ?_ | refine j_cond_t ?_ | refine j_cond_f ?_ | refine j_store rfl ?_ | refine j_still_nil ?_)
    refine j_gcall hst rfl (by (repeat' (first | exact Pick.here | apply Pick.there | apply Picks.cons | exact Picks.nil))) (fun _ _ => trivial) ?_
    rintro _ _ ⟨rfl, rfl⟩
    simp only [List.cons_append, List.nil_append]
    repeat (first | refine j_addN (by omega) rfl ?_ | refine j_subN (by omega) rfl ?_ | refine j_addI (by omega) (by omega) rfl ?_ | refine j_subI (by omega) (by omega) rfl ?_ | refine j_op rfl ?_ | refine j_pickF rfl ?_ | refine j_pickT rfl ?_ | refine j_region ?_ | refine j_nil ?_ | refine j_then ?_ | refine j_mono (by assumption) ?_ | (refine j_seq fun K hK => ?_) | refine j_gdo rfl ?_ | refine j_gskip_t rfl ?_ | refine j_gskip_f rfl ?_ | refine j_gskip_u rfl ?_ | refine j_gspec rfl ?_ | refine j_block ?_ | refine j_ret ?_ | refine j_then_ret ?_ | refine j_in_ret ?_ | refine j_in_normal ?_ | refine j_exit ?_ | refine j_then_exit ?_ | refine j_in_exit ?_ | refine j_in_past ?_ | refine j_skip ?_ | refine j_cond_t ?_ | refine j_cond_f ?_ | refine j_store rfl ?_ | refine j_still_nil ?_)
    exact j_back (script.length - (i + 1)) _ _ ⟨i + 1, ps2, kA2, kc2, book2, m2, by omega, rfl, ⟨v1, v2, v3, by omega⟩, rfl, rfl⟩ (by omega) (by (first | exact sub_nil | (repeat' (first | exact sub_nil | refine sub_cons inferInstance rfl ?_)))) (LE.sub (by (repeat' (first | exact Pick.here | apply Pick.there | apply Picks.cons | exact Picks.nil))))
  · simp only [Bool.or_eq_true, Bool.and_eq_true, Bool.or_eq_false_iff, Bool.and_eq_false_iff, Bool.not_eq_true', Bool.not_eq_false', decide_eq_true_eq, decide_eq_false_iff_not, ne_eq, Decidable.not_not] at h
    have hie : i = script.length := by omega
    repeat (first | refine j_addN (by omega) rfl ?_ | refine j_subN (by omega) rfl ?_ | refine j_addI (by omega) (by omega) rfl ?_ | refine j_subI (by omega) (by omega) rfl ?_ | refine j_op rfl ?_ | refine j_pickF rfl ?_ | refine j_pickT rfl ?_ | refine j_region ?_ | refine j_nil ?_ | refine j_then ?_ | refine j_mono (by assumption) ?_ | (refine j_seq fun K hK => ?_) | refine j_gdo rfl ?_ | refine j_gskip_t rfl ?_ | refine j_gskip_f rfl ?_ | refine j_gskip_u rfl ?_ | refine j_gspec rfl ?_ | refine j_block ?_ | refine j_ret ?_ | refine j_then_ret ?_ | refine j_in_ret ?_ | refine j_in_normal ?_ | refine j_exit ?_ | refine j_then_exit ?_ | refine j_in_exit ?_ | refine j_in_past ?_ | refine j_skip ?_ | refine j_cond_t ?_ | refine j_cond_f ?_ | refine j_store rfl ?_ | refine j_still_nil ?_)
    refine j_loop (fun mm e L => ∃ j ps kA kc book m, j ≤ 3 ∧ mm = 3 - j ∧ (ps.length = 3 ∧ (∀ k ∈ book, KpOk k) ∧ rngI m ∧ book.length ≤ 3 * script.length + 3 + 3 * j) ∧ e = [(3, .pointer (some ⟨b3, 0, none⟩)), (6, .int .i64 (j : Int))] ∧ L = [cells b3 0 (benchV (own1 ps) (ref1 ps) (.slice kA book.length kc) (.int .i64 m)), own encKp kA kc book, allR keptR book, allR placeR ps]) 3 _ _ ⟨0, ps, kA, kc, book, m, by omega, rfl, ⟨w1, w2, w3, by omega⟩, rfl, rfl⟩ (by (first | exact sub_nil | (repeat' (first | exact sub_nil | refine sub_cons inferInstance rfl ?_)))) (LE.sub (by (repeat' (first | exact Pick.here | apply Pick.there | apply Picks.cons | exact Picks.nil)))) ?_
    rintro mm e L ⟨j, ps, kA, kc, book, m, hj, rfl, ⟨w1, w2, w3, w4⟩, rfl, rfl⟩
    repeat (first | refine j_addN (by omega) rfl ?_ | refine j_subN (by omega) rfl ?_ | refine j_addI (by omega) (by omega) rfl ?_ | refine j_subI (by omega) (by omega) rfl ?_ | refine j_op rfl ?_ | refine j_pickF rfl ?_ | refine j_pickT rfl ?_ | refine j_region ?_ | refine j_nil ?_ | refine j_then ?_ | refine j_mono (by assumption) ?_ | (refine j_seq fun K hK => ?_) | refine j_gdo rfl ?_ | refine j_gskip_t rfl ?_ | refine j_gskip_f rfl ?_ | refine j_gskip_u rfl ?_ | refine j_gspec rfl ?_ | refine j_block ?_ | refine j_ret ?_ | refine j_then_ret ?_ | refine j_in_ret ?_ | refine j_in_normal ?_ | refine j_exit ?_ | refine j_then_exit ?_ | refine j_in_exit ?_ | refine j_in_past ?_ | refine j_skip ?_ | refine j_cond_t ?_ | refine j_cond_f ?_ | refine j_store rfl ?_ | refine j_still_nil ?_)
    refine j_cond (fun h => ?_) (fun h => ?_)
    · simp only [Bool.or_eq_true, Bool.and_eq_true, Bool.or_eq_false_iff, Bool.and_eq_false_iff, Bool.not_eq_true', Bool.not_eq_false', decide_eq_true_eq, decide_eq_false_iff_not, ne_eq, Decidable.not_not] at h
      have hps := plays_spec b3 ps kA kc book m w1 w2 w3 ⟨5, (j : Int), 0, 0, 0, ⟨#[]⟩, ⟨#[]⟩, (⟨none, 0, []⟩, ⟨none, 0, []⟩)⟩ (Nat.zero_le _) (Nat.zero_le _) (by omega)
      unfold ptr opV BL at hps
      repeat (first | refine j_addN (by omega) rfl ?_ | refine j_subN (by omega) rfl ?_ | refine j_addI (by omega) (by omega) rfl ?_ | refine j_subI (by omega) (by omega) rfl ?_ | refine j_op rfl ?_ | refine j_pickF rfl ?_ | refine j_pickT rfl ?_ | refine j_region ?_ | refine j_nil ?_ | refine j_then ?_ | refine j_mono (by assumption) ?_ | (refine j_seq fun K hK => ?_) | refine j_gdo rfl ?_ | refine j_gskip_t rfl ?_ | refine j_gskip_f rfl ?_ | refine j_gskip_u rfl ?_ | refine j_gspec rfl ?_ | refine j_block ?_ | refine j_ret ?_ | refine j_then_ret ?_ | refine j_in_ret ?_ | refine j_in_normal ?_ | refine j_exit ?_ | refine j_then_exit ?_ | refine j_in_exit ?_ | refine j_in_past ?_ | refine j_skip ?_ | refine j_cond_t ?_ | refine j_cond_f ?_ | refine j_store rfl ?_ | refine j_still_nil ?_)
      refine j_call hps rfl (by (repeat' (first | exact Pick.here | apply Pick.there | apply Picks.cons | exact Picks.nil))) (fun F' hF' => ⟨tab.ext hF', RO.nil, RO.nil⟩) ?_
      rintro _ _ ⟨rfl, ps2, kA2, kc2, book2, m2, v1, v2, v3, v4, rfl⟩
      unfold BL
      simp only [List.cons_append, List.nil_append]
      repeat (first | refine j_addN (by omega) rfl ?_ | refine j_subN (by omega) rfl ?_ | refine j_addI (by omega) (by omega) rfl ?_ | refine j_subI (by omega) (by omega) rfl ?_ | refine j_op rfl ?_ | refine j_pickF rfl ?_ | refine j_pickT rfl ?_ | refine j_region ?_ | refine j_nil ?_ | refine j_then ?_ | refine j_mono (by assumption) ?_ | (refine j_seq fun K hK => ?_) | refine j_gdo rfl ?_ | refine j_gskip_t rfl ?_ | refine j_gskip_f rfl ?_ | refine j_gskip_u rfl ?_ | refine j_gspec rfl ?_ | refine j_block ?_ | refine j_ret ?_ | refine j_then_ret ?_ | refine j_in_ret ?_ | refine j_in_normal ?_ | refine j_exit ?_ | refine j_then_exit ?_ | refine j_in_exit ?_ | refine j_in_past ?_ | refine j_skip ?_ | refine j_cond_t ?_ | refine j_cond_f ?_ | refine j_store rfl ?_ | refine j_still_nil ?_)
      exact j_back (3 - (j + 1)) _ _ ⟨j + 1, ps2, kA2, kc2, book2, m2, by omega, rfl, ⟨v1, v2, v3, by omega⟩, rfl, rfl⟩ (by omega) (by (first | exact sub_nil | (repeat' (first | exact sub_nil | refine sub_cons inferInstance rfl ?_)))) (LE.sub (by (repeat' (first | exact Pick.here | apply Pick.there | apply Picks.cons | exact Picks.nil))))
    · simp only [Bool.or_eq_true, Bool.and_eq_true, Bool.or_eq_false_iff, Bool.and_eq_false_iff, Bool.not_eq_true', Bool.not_eq_false', decide_eq_true_eq, decide_eq_false_iff_not, ne_eq, Decidable.not_not] at h
      have hst := stillV_spec b3 (own1 ps) (ref1 ps) (by rw [List.length_map]; exact w1) (by rw [List.length_map]; exact w1) (.int .i64 m) kA kc book w2 (by omega)
      unfold ptr at hst
      repeat (first | refine j_addN (by omega) rfl ?_ | refine j_subN (by omega) rfl ?_ | refine j_addI (by omega) (by omega) rfl ?_ | refine j_subI (by omega) (by omega) rfl ?_ | refine j_op rfl ?_ | refine j_pickF rfl ?_ | refine j_pickT rfl ?_ | refine j_region ?_ | refine j_nil ?_ | refine j_then ?_ | refine j_mono (by assumption) ?_ | (refine j_seq fun K hK => ?_) | refine j_gdo rfl ?_ | refine j_gskip_t rfl ?_ | refine j_gskip_f rfl ?_ | refine j_gskip_u rfl ?_ | refine j_gspec rfl ?_ | refine j_block ?_ | refine j_ret ?_ | refine j_then_ret ?_ | refine j_in_ret ?_ | refine j_in_normal ?_ | refine j_exit ?_ | refine j_then_exit ?_ | refine j_in_exit ?_ | refine j_in_past ?_ | refine j_skip ?_ | refine j_cond_t ?_ | refine j_cond_f ?_ | refine j_store rfl ?_ | refine j_still_nil ?_)
      refine j_call hst rfl (by (repeat' (first | exact Pick.here | apply Pick.there | apply Picks.cons | exact Picks.nil))) (fun _ _ => trivial) ?_
      rintro _ _ ⟨rfl, rfl⟩
      simp only [List.cons_append, List.nil_append]
      repeat (first | refine j_addN (by omega) rfl ?_ | refine j_subN (by omega) rfl ?_ | refine j_addI (by omega) (by omega) rfl ?_ | refine j_subI (by omega) (by omega) rfl ?_ | refine j_op rfl ?_ | refine j_pickF rfl ?_ | refine j_pickT rfl ?_ | refine j_region ?_ | refine j_nil ?_ | refine j_then ?_ | refine j_mono (by assumption) ?_ | (refine j_seq fun K hK => ?_) | refine j_gdo rfl ?_ | refine j_gskip_t rfl ?_ | refine j_gskip_f rfl ?_ | refine j_gskip_u rfl ?_ | refine j_gspec rfl ?_ | refine j_block ?_ | refine j_ret ?_ | refine j_then_ret ?_ | refine j_in_ret ?_ | refine j_in_normal ?_ | refine j_exit ?_ | refine j_then_exit ?_ | refine j_in_exit ?_ | refine j_in_past ?_ | refine j_skip ?_ | refine j_cond_t ?_ | refine j_cond_f ?_ | refine j_store rfl ?_ | refine j_still_nil ?_)
      (first | refine j_done (.inl rfl) ?_ | refine j_done (.inr rfl) ?_ | refine j_doneM (.inl rfl) ?_ | refine j_doneM (.inr rfl) ?_)
      exact ⟨_, rfl, LE.nil⟩
end Go.Proofs.YtjmicpkinflofaaDoor.S
namespace Go.Proofs.YtjmicpkinflofaaDoor.S
open Go.RowKit
set_option linter.unusedVariables false
set_option linter.unusedSimpArgs false
set_option maxRecDepth 100000
set_option maxHeartbeats 4000000
def encSt : Enc (Sl PObj × Sl Int) := ⟨2, by decide, fun s => [.slice s.1.A s.1.xs.length s.1.c, .slice s.2.A s.2.xs.length s.2.c], fun _ => rfl, fun x v h => by simp at h; rcases h with rfl | rfl <;> rfl⟩
theorem opn_obj : Opn Tryd.prog encObj 69 (fun _ _ => True) :=
  opn_iso (E := encPair encS (encPair encS (encPair encI encI))) (opn_struct Tryd.underlying69 (by kernel_rfl) (opnL_cons rfl (opn_string Tryd.underlying9 (by kernel_rfl)) (opnL_cons rfl (opn_string Tryd.underlying9 (by kernel_rfl)) (opnL_cons rfl (opn_int Tryd.underlying3 (by kernel_rfl)) (opnL_one rfl (opn_int Tryd.underlying3 (by kernel_rfl)))))))
    (fun v => ⟨v.1, v.2.1, v.2.2.1, v.2.2.2⟩) rfl (fun v => rfl) (fun _ _ _ => trivial)
def StG (w : World) (s : Sl PObj × Sl Int) : Prop := (Rd (wat w) encObj s.1.A s.1.xs ∧ s.1.xs.length * 48 ≤ 140737488351232) ∧ Rd (wat w) encI s.2.A s.2.xs ∧ s.2.xs.length * 8 ≤ 140737488351232
theorem opn_state : Opn Tryd.prog encSt 35 StG :=
  opn_iso (E := encPair (encSl PObj) (encSl Int)) (opn_struct Tryd.underlying35 (by kernel_rfl) (opnL_cons rfl (opn_slice (B := 48) Tryd.underlying32 (by kernel_rfl) (by kernel_rfl) opn_obj) (opnL_one rfl (opn_slice (B := 8) Tryd.underlying33 (by kernel_rfl) (by kernel_rfl) (opn_int Tryd.underlying3 (by kernel_rfl))))))
    id rfl (fun v => rfl) (fun w v h => ⟨⟨h.1.1, h.1.2.2.1⟩, h.2.1, h.2.2.2.1⟩)
def PopG (w : World) (o : POp) : Prop := StG w o.st
theorem opn_pop : Opn Tryd.prog encPOp 37 PopG :=
  opn_iso (E := encPair encI (encPair encI (encPair encI (encPair encI (encPair encI (encPair encS (encPair encS encSt))))))) (opn_struct Tryd.underlying37 (by kernel_rfl)
    (opnL_cons rfl (opn_int Tryd.underlying3 (by kernel_rfl)) (opnL_cons rfl (opn_int Tryd.underlying3 (by kernel_rfl)) (opnL_cons rfl (opn_int Tryd.underlying3 (by kernel_rfl)) (opnL_cons rfl (opn_int Tryd.underlying3 (by kernel_rfl)) (opnL_cons rfl (opn_int Tryd.underlying3 (by kernel_rfl))
    (opnL_cons rfl (opn_string Tryd.underlying9 (by kernel_rfl)) (opnL_cons rfl (opn_string Tryd.underlying9 (by kernel_rfl)) (opnL_one rfl opn_state)))))))))
    (fun v => ⟨v.1, v.2.1, v.2.2.1, v.2.2.2.1, v.2.2.2.2.1, v.2.2.2.2.2.1, v.2.2.2.2.2.2.1, v.2.2.2.2.2.2.2⟩) rfl (fun v => rfl) (fun w v h => h.2.2.2.2.2.2.2)
theorem open_poolPlays_0 : Opn Tryd.prog (encSl POp) 22 (SlG encPOp 120 PopG) := opn_slice (B := 120) Tryd.underlying22 (by kernel_rfl) (by kernel_rfl) opn_pop
theorem bulk_one {H : Type} (d : DataW H) : 1 ≤ Rows.uptoBulk d := by
  cases d with
  | lit l => cases l <;> simp [Rows.uptoBulk]
  | nil => simp [Rows.uptoBulk]
  | ptr d => simp [Rows.uptoBulk]
  | slice elems spare => simp [Rows.uptoBulk]
  | agg parts => simp [Rows.uptoBulk]
  | iface t d => simp [Rows.uptoBulk]
  | map entries => simp [Rows.uptoBulk]
  | held h => simp [Rows.uptoBulk]
theorem bulk_all {H : Type} (l : List (DataW H)) : l.length ≤ Rows.uptoBulkAll l := by
  induction l with
  | nil => simp [Rows.uptoBulkAll]
  | cons x r ih => have := bulk_one x; simp only [Rows.uptoBulkAll, List.length_cons]; omega
theorem bulk_len {H : Type} {enc : TypeId × Value → H} {P : Program} {t e : TypeId} {w : World} {base : Nat} {sp : Nat → Bool} {held : Bool} {fuel n c : Nat} {A : Option Addr} {x : DataW H × List MemPlace} (ht : P.underlying t = some (.slice e)) (h : DataW.trod enc P w base sp held fuel t [.slice A n c] = some x) : n ≤ Rows.uptoBulk x.1 := by
  rcases DataW.trod_slice ht h with ⟨h1, h2⟩ | ⟨a, len, cap, elems, rest, k, rfl, h1, rfl, hb, hl, hm, hlen, hel, _, _⟩
  · injection h1 with h1 _
    injection h1 with _ h3 _
    omega
  · injection h1 with h1 _
    injection h1 with _ h3 _
    have := bulk_all (elems.map (·.1))
    rw [List.length_map] at this
    simp only [Rows.uptoBulk]
    omega
theorem tab_of_laid {P : Program} {W : World} {name : String} {k : IntKind} {zs : List Int} {laid : List (String × DataW Unit)} {g : Nat} {t e : TypeId} {n : Nat} (hg : P.globalNamed name = some g) (hty : (P.globals[g]?).map (·.type) = some t) (ht : P.underlying t = some (.array n e)) (he : P.underlying e = some (.int k)) (hce : P.cellsOf e = 1) (hct : P.cellsOf t = n)
    (h : laidMet P laid W) (hm : (name, (Lib.tabData k zs : DataW Unit)) ∈ laid) : Lib.TabIs P W name k zs := by
  obtain ⟨g', t', cs, fuel, p, hg', ht', hvar, hd⟩ := Lib.laidMet.reads h hm
  obtain rfl := Option.some.inj (hg.symm.trans hg')
  obtain rfl := Option.some.inj (hty.symm.trans ht')
  unfold Lib.TabIs
  rw [hvar, ← Lib.cells_of_tab ht he hce hct hd]
theorem poolPlays_calls (x0 : Sl POp) (w : World) (hL : laidMetH Tryd.prog Rows.poolPlaysUptoRow.laid w) (b0 : x0.xs.length ≤ 1048576) (g0 : SlG encPOp 120 PopG w x0) :
    Calls Tryd.prog 3 #[.slice x0.A x0.xs.length x0.c] w fun e w' => e = .returned (.bool true) ∧ Below w.heap.size w w' := by
  have hL' : laidMet Tryd.prog Rows.poolPlaysUptoRow.laid w := by
    rw [Go.MakeChecks.laidMetH_plain _ _ _ (by kernel_rfl)] at hL
    exact hL
  have htab : Lib.TabIs Tryd.prog w "internal/strconv.uint64pow10" .u64 Lib.pow10Tab := tab_of_laid (g := 0) (t := 123) (e := 116) (n := 20) (by kernel_rfl) (by kernel_rfl) (by kernel_rfl) (by kernel_rfl) (by kernel_rfl) (by kernel_rfl) hL' (.tail _ (.tail _ (.head _)))
  have hg := g0.2.2.2.2
  exact (poolPlays_spec x0.A x0.c x0.xs b0 (fun o ho => ⟨(hg o ho).1.2, (hg o ho).2.2⟩)).law w ⟨htab, g0.1.ro, fun o ho => ⟨(hg o ho).1.1.ro, (hg o ho).2.1.ro⟩⟩
end Go.Proofs.YtjmicpkinflofaaDoor.S
