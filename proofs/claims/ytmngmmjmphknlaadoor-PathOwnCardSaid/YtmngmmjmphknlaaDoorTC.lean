/- tree: slices.Equal of strings, and path.Inside -/
import Derived.Test.YtmngmmjmphknlaaDoorTB
namespace Go.Proofs.YtmngmmjmphknlaaDoor.S
open Go.RowKit
set_option linter.unusedVariables false
set_option linter.unusedSimpArgs false
set_option maxRecDepth 100000
set_option maxHeartbeats 4000000
set_option synthInstance.maxHeartbeats 400000
set_option synthInstance.maxSize 4000
attribute [local irreducible] wpList Code.wp Exit.then Exit.inBlock stillR bodyPost hR J Back Mid
theorem take_eq_step {α : Type} {a b : List α} {k : Nat} {x y : α} (hx : a[k]? = some x) (hy : b[k]? = some y) (h : a.take k = b.take k) : (x = y → a.take (k + 1) = b.take (k + 1)) ∧ (x ≠ y → a ≠ b) := by
  constructor
  · rintro rfl
    rw [List.take_add_one, List.take_add_one, hx, hy, h]
  · rintro hne rfl
    rw [hx] at hy
    exact hne (Option.some.inj hy)
theorem RO.front {α : Type} {F : Fr} {E : Enc α} {A : Option Addr} {xs : List α} (r : RO F E A xs) (n : Nat) : RO F E A (xs.take n) := ⟨r.out.take n⟩
theorem equal_spec (A B : Option Addr) (c d : Nat) (a b : List ByteArray) (ha : a.length ≤ 9223372036854775807) : Spec Tryd.prog 24 [.slice A a.length c, .slice B b.length d] [] (fun F => RO F encS A a ∧ RO F encS B b) (fun v L => v = .bool (decide (a = b)) ∧ L = []) := by
  refine spec_of Tryd.func24 rfl Tryd.ntmps24 fun F hF => ?_
  obtain ⟨ro1, ro2⟩ := hF
  repeat (first | refine j_addN (by omega) rfl ?_ | refine j_subN (by omega) rfl ?_ | refine j_mulN (by omega) rfl ?_ | refine j_remN (by omega) rfl ?_ | refine j_addI (by omega) (by omega) rfl ?_ | refine j_subI (by omega) (by omega) rfl ?_ | refine j_op rfl ?_ | refine j_pickF rfl ?_ | refine j_pickT rfl ?_ | refine j_region ?_ | refine j_nil ?_ | refine j_then ?_ | refine j_mono (by assumption) ?_ | (refine j_seq fun K hK => ?_) | refine j_gdo rfl ?_ | refine j_gskip_t rfl ?_ | refine j_gskip_f rfl ?_ | refine j_gskip_u rfl ?_ | refine j_gspec rfl ?_ | refine j_block ?_ | refine j_ret ?_ | refine j_then_ret ?_ | refine j_in_ret ?_ | refine j_in_normal ?_ | refine j_exit ?_ | refine j_then_exit ?_ | refine j_in_exit ?_ | refine j_in_past ?_ | refine j_skip ?_ | refine j_cond_t ?_ | refine j_cond_f ?_ | refine j_store rfl ?_ | refine j_still_nil ?_ | (refine j_buildSlice rfl rfl rfl rfl fun bx => ?_) | (refine j_alloc rfl fun bx => ?_) | (refine j_box rfl fun bx => ?_))
  refine j_cond (fun h => ?_) (fun h => ?_)
  · simp only [Bool.or_eq_true, Bool.and_eq_true, Bool.or_eq_false_iff, Bool.and_eq_false_iff, Bool.not_eq_true', Bool.not_eq_false', decide_eq_true_eq, decide_eq_false_iff_not, ne_eq, Decidable.not_not] at h
    repeat (first | refine j_addN (by omega) rfl ?_ | refine j_subN (by omega) rfl ?_ | refine j_mulN (by omega) rfl ?_ | refine j_remN (by omega) rfl ?_ | refine j_addI (by omega) (by omega) rfl ?_ | refine j_subI (by omega) (by omega) rfl ?_ | refine j_op rfl ?_ | refine j_pickF rfl ?_ | refine j_pickT rfl ?_ | refine j_region ?_ | refine j_nil ?_ | refine j_then ?_ | refine j_mono (by assumption) ?_ | (refine j_seq fun K hK => ?_) | refine j_gdo rfl ?_ | refine j_gskip_t rfl ?_ | refine j_gskip_f rfl ?_ | refine j_gskip_u rfl ?_ | refine j_gspec rfl ?_ | refine j_block ?_ | refine j_ret ?_ | refine j_then_ret ?_ | refine j_in_ret ?_ | refine j_in_normal ?_ | refine j_exit ?_ | refine j_then_exit ?_ | refine j_in_exit ?_ | refine j_in_past ?_ | refine j_skip ?_ | refine j_cond_t ?_ | refine j_cond_f ?_ | refine j_store rfl ?_ | refine j_still_nil ?_ | (refine j_buildSlice rfl rfl rfl rfl fun bx => ?_) | (refine j_alloc rfl fun bx => ?_) | (refine j_box rfl fun bx => ?_))
    (first | refine j_done (.inl rfl) ?_ | refine j_done (.inr rfl) ?_ | refine j_doneM (.inl rfl) ?_ | refine j_doneM (.inr rfl) ?_)
    refine ⟨_, ⟨?_, rfl⟩, LE.nil⟩
    rw [decide_eq_false]
    rintro rfl
    exact h rfl
  · simp only [Bool.or_eq_true, Bool.and_eq_true, Bool.or_eq_false_iff, Bool.and_eq_false_iff, Bool.not_eq_true', Bool.not_eq_false', decide_eq_true_eq, decide_eq_false_iff_not, ne_eq, Decidable.not_not] at h
    repeat (first | refine j_addN (by omega) rfl ?_ | refine j_subN (by omega) rfl ?_ | refine j_mulN (by omega) rfl ?_ | refine j_remN (by omega) rfl ?_ | refine j_addI (by omega) (by omega) rfl ?_ | refine j_subI (by omega) (by omega) rfl ?_ | refine j_op rfl ?_ | refine j_pickF rfl ?_ | refine j_pickT rfl ?_ | refine j_region ?_ | refine j_nil ?_ | refine j_then ?_ | refine j_mono (by assumption) ?_ | (refine j_seq fun K hK => ?_) | refine j_gdo rfl ?_ | refine j_gskip_t rfl ?_ | refine j_gskip_f rfl ?_ | refine j_gskip_u rfl ?_ | refine j_gspec rfl ?_ | refine j_block ?_ | refine j_ret ?_ | refine j_then_ret ?_ | refine j_in_ret ?_ | refine j_in_normal ?_ | refine j_exit ?_ | refine j_then_exit ?_ | refine j_in_exit ?_ | refine j_in_past ?_ | refine j_skip ?_ | refine j_cond_t ?_ | refine j_cond_f ?_ | refine j_store rfl ?_ | refine j_still_nil ?_ | (refine j_buildSlice rfl rfl rfl rfl fun bx => ?_) | (refine j_alloc rfl fun bx => ?_) | (refine j_box rfl fun bx => ?_))
    refine j_loop (fun m e L => ∃ k, k ≤ a.length ∧ m = a.length - k ∧ a.take k = b.take k ∧ e = [(0, .slice A a.length c), (1, .slice B b.length d), (12, .int .i64 (a.length : Int)), (13, .int .i64 (k : Int))] ∧ L = []) a.length _ _ ⟨0, by omega, rfl, by simp, rfl, rfl⟩ (by (first | exact sub_nil | (repeat' (first | exact sub_nil | refine sub_cons inferInstance rfl ?_)))) (LE.sub (by (repeat' (first | exact Pick.here | apply Pick.there | apply Picks.cons | exact Picks.nil)))) ?_
    rintro m e L ⟨k, hk, rfl, h0, rfl, rfl⟩
    repeat (first | refine j_addN (by omega) rfl ?_ | refine j_subN (by omega) rfl ?_ | refine j_mulN (by omega) rfl ?_ | refine j_remN (by omega) rfl ?_ | refine j_addI (by omega) (by omega) rfl ?_ | refine j_subI (by omega) (by omega) rfl ?_ | refine j_op rfl ?_ | refine j_pickF rfl ?_ | refine j_pickT rfl ?_ | refine j_region ?_ | refine j_nil ?_ | refine j_then ?_ | refine j_mono (by assumption) ?_ | (refine j_seq fun K hK => ?_) | refine j_gdo rfl ?_ | refine j_gskip_t rfl ?_ | refine j_gskip_f rfl ?_ | refine j_gskip_u rfl ?_ | refine j_gspec rfl ?_ | refine j_block ?_ | refine j_ret ?_ | refine j_then_ret ?_ | refine j_in_ret ?_ | refine j_in_normal ?_ | refine j_exit ?_ | refine j_then_exit ?_ | refine j_in_exit ?_ | refine j_in_past ?_ | refine j_skip ?_ | refine j_cond_t ?_ | refine j_cond_f ?_ | refine j_store rfl ?_ | refine j_still_nil ?_ | (refine j_buildSlice rfl rfl rfl rfl fun bx => ?_) | (refine j_alloc rfl fun bx => ?_) | (refine j_box rfl fun bx => ?_))
    refine j_cond (fun h => ?_) (fun h => ?_)
    · simp only [Bool.or_eq_true, Bool.and_eq_true, Bool.or_eq_false_iff, Bool.and_eq_false_iff, Bool.not_eq_true', Bool.not_eq_false', decide_eq_true_eq, decide_eq_false_iff_not, ne_eq, Decidable.not_not] at h
      have hx := List.getElem?_eq_getElem (show k < a.length by omega)
      have hy := List.getElem?_eq_getElem (show k < b.length by omega)
      generalize a[k] = x at hx
      generalize b[k] = y at hy
      have hat : At a k x := ⟨hx⟩
      have hat2 : At b k y := ⟨hy⟩
      repeat (first | refine j_addN (by omega) rfl ?_ | refine j_subN (by omega) rfl ?_ | refine j_mulN (by omega) rfl ?_ | refine j_remN (by omega) rfl ?_ | refine j_addI (by omega) (by omega) rfl ?_ | refine j_subI (by omega) (by omega) rfl ?_ | refine j_op rfl ?_ | refine j_pickF rfl ?_ | refine j_pickT rfl ?_ | refine j_region ?_ | refine j_nil ?_ | refine j_then ?_ | refine j_mono (by assumption) ?_ | (refine j_seq fun K hK => ?_) | refine j_gdo rfl ?_ | refine j_gskip_t rfl ?_ | refine j_gskip_f rfl ?_ | refine j_gskip_u rfl ?_ | refine j_gspec rfl ?_ | refine j_block ?_ | refine j_ret ?_ | refine j_then_ret ?_ | refine j_in_ret ?_ | refine j_in_normal ?_ | refine j_exit ?_ | refine j_then_exit ?_ | refine j_in_exit ?_ | refine j_in_past ?_ | refine j_skip ?_ | refine j_cond_t ?_ | refine j_cond_f ?_ | refine j_store rfl ?_ | refine j_still_nil ?_ | (refine j_buildSlice rfl rfl rfl rfl fun bx => ?_) | (refine j_alloc rfl fun bx => ?_) | (refine j_box rfl fun bx => ?_))
      refine j_region_still mixed (by kernel_rfl) ?_
      repeat (first | refine j_addN (by omega) rfl ?_ | refine j_subN (by omega) rfl ?_ | refine j_mulN (by omega) rfl ?_ | refine j_remN (by omega) rfl ?_ | refine j_addI (by omega) (by omega) rfl ?_ | refine j_subI (by omega) (by omega) rfl ?_ | refine j_op rfl ?_ | refine j_pickF rfl ?_ | refine j_pickT rfl ?_ | refine j_region ?_ | refine j_nil ?_ | refine j_then ?_ | refine j_mono (by assumption) ?_ | (refine j_seq fun K hK => ?_) | refine j_gdo rfl ?_ | refine j_gskip_t rfl ?_ | refine j_gskip_f rfl ?_ | refine j_gskip_u rfl ?_ | refine j_gspec rfl ?_ | refine j_block ?_ | refine j_ret ?_ | refine j_then_ret ?_ | refine j_in_ret ?_ | refine j_in_normal ?_ | refine j_exit ?_ | refine j_then_exit ?_ | refine j_in_exit ?_ | refine j_in_past ?_ | refine j_skip ?_ | refine j_cond_t ?_ | refine j_cond_f ?_ | refine j_store rfl ?_ | refine j_still_nil ?_ | (refine j_buildSlice rfl rfl rfl rfl fun bx => ?_) | (refine j_alloc rfl fun bx => ?_) | (refine j_box rfl fun bx => ?_))
      refine j_cond (fun h => ?_) (fun h => ?_)
      · simp only [Bool.or_eq_true, Bool.and_eq_true, Bool.or_eq_false_iff, Bool.and_eq_false_iff, Bool.not_eq_true', Bool.not_eq_false', decide_eq_true_eq, decide_eq_false_iff_not, ne_eq, Decidable.not_not] at h
        repeat (first | refine j_addN (by omega) rfl ?_ | refine j_subN (by omega) rfl ?_ | refine j_mulN (by omega) rfl ?_ | refine j_remN (by omega) rfl ?_ | refine j_addI (by omega) (by omega) rfl ?_ | refine j_subI (by omega) (by omega) rfl ?_ | refine j_op rfl ?_ | refine j_pickF rfl ?_ | refine j_pickT rfl ?_ | refine j_region ?_ | refine j_nil ?_ | refine j_then ?_ | refine j_mono (by assumption) ?_ | (refine j_seq fun K hK => ?_) | refine j_gdo rfl ?_ | refine j_gskip_t rfl ?_ | refine j_gskip_f rfl ?_ | refine j_gskip_u rfl ?_ | refine j_gspec rfl ?_ | refine j_block ?_ | refine j_ret ?_ | refine j_then_ret ?_ | refine j_in_ret ?_ | refine j_in_normal ?_ | refine j_exit ?_ | refine j_then_exit ?_ | refine j_in_exit ?_ | refine j_in_past ?_ | refine j_skip ?_ | refine j_cond_t ?_ | refine j_cond_f ?_ | refine j_store rfl ?_ | refine j_still_nil ?_ | (refine j_buildSlice rfl rfl rfl rfl fun bx => ?_) | (refine j_alloc rfl fun bx => ?_) | (refine j_box rfl fun bx => ?_))
        (first | refine j_done (.inl rfl) ?_ | refine j_done (.inr rfl) ?_ | refine j_doneM (.inl rfl) ?_ | refine j_doneM (.inr rfl) ?_)
        exact ⟨_, ⟨by rw [decide_eq_false ((take_eq_step hx hy h0).2 h)], rfl⟩, LE.nil⟩
      · simp only [Bool.or_eq_true, Bool.and_eq_true, Bool.or_eq_false_iff, Bool.and_eq_false_iff, Bool.not_eq_true', Bool.not_eq_false', decide_eq_true_eq, decide_eq_false_iff_not, ne_eq, Decidable.not_not] at h
        repeat (first | refine j_addN (by omega) rfl ?_ | refine j_subN (by omega) rfl ?_ | refine j_mulN (by omega) rfl ?_ | refine j_remN (by omega) rfl ?_ | refine j_addI (by omega) (by omega) rfl ?_ | refine j_subI (by omega) (by omega) rfl ?_ | refine j_op rfl ?_ | refine j_pickF rfl ?_ | refine j_pickT rfl ?_ | refine j_region ?_ | refine j_nil ?_ | refine j_then ?_ | refine j_mono (by assumption) ?_ | (refine j_seq fun K hK => ?_) | refine j_gdo rfl ?_ | refine j_gskip_t rfl ?_ | refine j_gskip_f rfl ?_ | refine j_gskip_u rfl ?_ | refine j_gspec rfl ?_ | refine j_block ?_ | refine j_ret ?_ | refine j_then_ret ?_ | refine j_in_ret ?_ | refine j_in_normal ?_ | refine j_exit ?_ | refine j_then_exit ?_ | refine j_in_exit ?_ | refine j_in_past ?_ | refine j_skip ?_ | refine j_cond_t ?_ | refine j_cond_f ?_ | refine j_store rfl ?_ | refine j_still_nil ?_ | (refine j_buildSlice rfl rfl rfl rfl fun bx => ?_) | (refine j_alloc rfl fun bx => ?_) | (refine j_box rfl fun bx => ?_))
        exact j_back (a.length - (k + 1)) _ _ ⟨k + 1, by omega, rfl, (take_eq_step hx hy h0).1 h, rfl, rfl⟩ (by omega) (by (first | exact sub_nil | (repeat' (first | exact sub_nil | refine sub_cons inferInstance rfl ?_)))) (LE.sub (by (repeat' (first | exact Pick.here | apply Pick.there | apply Picks.cons | exact Picks.nil))))
    · simp only [Bool.or_eq_true, Bool.and_eq_true, Bool.or_eq_false_iff, Bool.and_eq_false_iff, Bool.not_eq_true', Bool.not_eq_false', decide_eq_true_eq, decide_eq_false_iff_not, ne_eq, Decidable.not_not] at h
      repeat (first | refine j_addN (by omega) rfl ?_ | refine j_subN (by omega) rfl ?_ | refine j_mulN (by omega) rfl ?_ | refine j_remN (by omega) rfl ?_ | refine j_addI (by omega) (by omega) rfl ?_ | refine j_subI (by omega) (by omega) rfl ?_ | refine j_op rfl ?_ | refine j_pickF rfl ?_ | refine j_pickT rfl ?_ | refine j_region ?_ | refine j_nil ?_ | refine j_then ?_ | refine j_mono (by assumption) ?_ | (refine j_seq fun K hK => ?_) | refine j_gdo rfl ?_ | refine j_gskip_t rfl ?_ | refine j_gskip_f rfl ?_ | refine j_gskip_u rfl ?_ | refine j_gspec rfl ?_ | refine j_block ?_ | refine j_ret ?_ | refine j_then_ret ?_ | refine j_in_ret ?_ | refine j_in_normal ?_ | refine j_exit ?_ | refine j_then_exit ?_ | refine j_in_exit ?_ | refine j_in_past ?_ | refine j_skip ?_ | refine j_cond_t ?_ | refine j_cond_f ?_ | refine j_store rfl ?_ | refine j_still_nil ?_ | (refine j_buildSlice rfl rfl rfl rfl fun bx => ?_) | (refine j_alloc rfl fun bx => ?_) | (refine j_box rfl fun bx => ?_))
      (first | refine j_done (.inl rfl) ?_ | refine j_done (.inr rfl) ?_ | refine j_doneM (.inl rfl) ?_ | refine j_doneM (.inr rfl) ?_)
      refine ⟨_, ⟨?_, rfl⟩, LE.nil⟩
      rw [decide_eq_true]
      rw [List.take_of_length_le (by omega), List.take_of_length_le (by omega)] at h0
      exact h0
def insideB (p q : List ByteArray) : Bool := decide (p = q.take p.length)
theorem inside_spec (A B : Option Addr) (c d : Nat) (a b : List ByteArray) (ha : a.length ≤ 9223372036854775807) (hb : b.length ≤ d) : Spec Tryd.prog 15 [.slice A a.length c, .slice B b.length d] [] (fun F => RO F encS A a ∧ RO F encS B b) (fun v L => v = .bool (insideB a b) ∧ L = []) := by
  refine spec_of Tryd.func15 rfl Tryd.ntmps15 fun F hF => ?_
  obtain ⟨ro1, ro2⟩ := hF
  by_cases c1 : a.length ≤ b.length
  · have d1 : Dec ((a.length : Int) ≤ (b.length : Int)) true := dec_t (by omega)
    have f1 : Ft (a.length ≤ d) := ⟨by omega⟩
    have e1 : (b.take a.length).length = a.length := by simp; omega
    repeat (first | refine j_addN (by omega) rfl ?_ | refine j_subN (by omega) rfl ?_ | refine j_mulN (by omega) rfl ?_ | refine j_remN (by omega) rfl ?_ | refine j_addI (by omega) (by omega) rfl ?_ | refine j_subI (by omega) (by omega) rfl ?_ | refine j_op rfl ?_ | refine j_pickF rfl ?_ | refine j_pickT rfl ?_ | refine j_region ?_ | refine j_nil ?_ | refine j_then ?_ | refine j_mono (by assumption) ?_ | (refine j_seq fun K hK => ?_) | refine j_gdo rfl ?_ | refine j_gskip_t rfl ?_ | refine j_gskip_f rfl ?_ | refine j_gskip_u rfl ?_ | refine j_gspec rfl ?_ | refine j_block ?_ | refine j_ret ?_ | refine j_then_ret ?_ | refine j_in_ret ?_ | refine j_in_normal ?_ | refine j_exit ?_ | refine j_then_exit ?_ | refine j_in_exit ?_ | refine j_in_past ?_ | refine j_skip ?_ | refine j_cond_t ?_ | refine j_cond_f ?_ | refine j_store rfl ?_ | refine j_still_nil ?_ | (refine j_buildSlice rfl rfl rfl rfl fun bx => ?_) | (refine j_alloc rfl fun bx => ?_) | (refine j_box rfl fun bx => ?_))
    trace_state
    refine j_gcall (v1 := _) (show Spec _ _ [.slice A a.length c, .slice B a.length d] [] _ _ from e1 ▸ equal_spec A B c d a (b.take a.length) ha) rfl .nil (fun F' hF' => ⟨ro1.ext hF', (ro2.front _).ext hF'⟩) ?_
    rintro _ _ ⟨rfl, rfl⟩
    simp only [List.cons_append, List.nil_append]
    repeat (first | refine j_addN (by omega) rfl ?_ | refine j_subN (by omega) rfl ?_ | refine j_mulN (by omega) rfl ?_ | refine j_remN (by omega) rfl ?_ | refine j_addI (by omega) (by omega) rfl ?_ | refine j_subI (by omega) (by omega) rfl ?_ | refine j_op rfl ?_ | refine j_pickF rfl ?_ | refine j_pickT rfl ?_ | refine j_region ?_ | refine j_nil ?_ | refine j_then ?_ | refine j_mono (by assumption) ?_ | (refine j_seq fun K hK => ?_) | refine j_gdo rfl ?_ | refine j_gskip_t rfl ?_ | refine j_gskip_f rfl ?_ | refine j_gskip_u rfl ?_ | refine j_gspec rfl ?_ | refine j_block ?_ | refine j_ret ?_ | refine j_then_ret ?_ | refine j_in_ret ?_ | refine j_in_normal ?_ | refine j_exit ?_ | refine j_then_exit ?_ | refine j_in_exit ?_ | refine j_in_past ?_ | refine j_skip ?_ | refine j_cond_t ?_ | refine j_cond_f ?_ | refine j_store rfl ?_ | refine j_still_nil ?_ | (refine j_buildSlice rfl rfl rfl rfl fun bx => ?_) | (refine j_alloc rfl fun bx => ?_) | (refine j_box rfl fun bx => ?_))
    (first | refine j_done (.inl rfl) ?_ | refine j_done (.inr rfl) ?_ | refine j_doneM (.inl rfl) ?_ | refine j_doneM (.inr rfl) ?_)
    exact ⟨_, ⟨rfl, rfl⟩, LE.nil⟩
  · have d1 : Dec ((a.length : Int) ≤ (b.length : Int)) false := dec_f (by omega)
    have : insideB a b = false := by
      unfold insideB
      rw [decide_eq_false]
      intro hh
      have := congrArg List.length hh
      simp at this
      omega
    rw [this]
    repeat (first | refine j_addN (by omega) rfl ?_ | refine j_subN (by omega) rfl ?_ | refine j_mulN (by omega) rfl ?_ | refine j_remN (by omega) rfl ?_ | refine j_addI (by omega) (by omega) rfl ?_ | refine j_subI (by omega) (by omega) rfl ?_ | refine j_op rfl ?_ | refine j_pickF rfl ?_ | refine j_pickT rfl ?_ | refine j_region ?_ | refine j_nil ?_ | refine j_then ?_ | refine j_mono (by assumption) ?_ | (refine j_seq fun K hK => ?_) | refine j_gdo rfl ?_ | refine j_gskip_t rfl ?_ | refine j_gskip_f rfl ?_ | refine j_gskip_u rfl ?_ | refine j_gspec rfl ?_ | refine j_block ?_ | refine j_ret ?_ | refine j_then_ret ?_ | refine j_in_ret ?_ | refine j_in_normal ?_ | refine j_exit ?_ | refine j_then_exit ?_ | refine j_in_exit ?_ | refine j_in_past ?_ | refine j_skip ?_ | refine j_cond_t ?_ | refine j_cond_f ?_ | refine j_store rfl ?_ | refine j_still_nil ?_ | (refine j_buildSlice rfl rfl rfl rfl fun bx => ?_) | (refine j_alloc rfl fun bx => ?_) | (refine j_box rfl fun bx => ?_))
    (first | refine j_done (.inl rfl) ?_ | refine j_done (.inr rfl) ?_ | refine j_doneM (.inl rfl) ?_ | refine j_doneM (.inr rfl) ?_)
    exact ⟨_, ⟨rfl, rfl⟩, LE.nil⟩
end Go.Proofs.YtmngmmjmphknlaaDoor.S
