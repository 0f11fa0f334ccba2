/- exec: the reference's contents -/
import Derived.Test.YtcoohckdnefacaaDoorXN
namespace Go.Proofs.YtcoohckdnefacaaDoor.S
open Go.RowKit
set_option linter.unusedVariables false
set_option linter.unusedSimpArgs false
set_option maxRecDepth 100000
set_option maxHeartbeats 4000000
set_option synthInstance.maxHeartbeats 400000
set_option synthInstance.maxSize 4000
attribute [local irreducible] wpList Code.wp Exit.then Exit.inBlock stillR bodyPost hR J Back Mid
theorem ba_ext {x y : ByteArray} (h : x.data.toList = y.data.toList) : x = y := by
  cases x; cases y; congr 1; exact Array.ext' h
theorem dsize (s : ByteArray) : s.data.toList.length = s.size := by simp
theorem bstr_size (b : List UInt8) : (bstr b).size = b.length := by simp [bstr, ByteArray.size]
theorem bstr_list (b : List UInt8) : (bstr b).data.toList = b := by simp [bstr]
theorem bstr_self (s : ByteArray) : bstr s.data.toList = s := ba_ext (bstr_list _)
theorem app_list (a b : ByteArray) : (a ++ b).data.toList = a.data.toList ++ b.data.toList := by simp
theorem ext_list (s : ByteArray) (a b : Nat) : (s.extract a b).data.toList = (s.data.toList.drop a).take (b - a) := by
  simp [ByteArray.data_extract, List.drop_take]
def writtenB (s : ByteArray) (a : Nat) (d : ByteArray) : ByteArray := bstr (writeF s.data.toList a d.data.toList)
theorem written_short {s d : ByteArray} {a : Nat} (hd : d ≠ ⟨#[]⟩) (h : s.size ≤ a + d.size) : (s ++ zerosB (a - s.size)).extract 0 a ++ d = writtenB s a d := by
  have hne : d.data.toList ≠ [] := fun hh => hd (data_nil.2 hh)
  apply ba_ext
  unfold writtenB
  rw [bstr_list, app_list, ext_list, app_list]
  unfold zerosB
  rw [bstr_list]
  unfold writeF
  rw [if_neg hne]
  have hds := dsize d
  have hss := dsize s
  unfold grownF zeros
  rw [List.drop_zero, Nat.sub_zero, List.drop_of_length_le (by simp; omega), List.append_nil]
  congr 1
  rw [hss]
  have : a + d.data.toList.length - s.size = (a - s.size) + (a + d.data.toList.length - s.size - (a - s.size)) := by omega
  rw [this, ← List.replicate_append_replicate, ← List.append_assoc]
  rw [List.take_append_of_le_length (l₁ := s.data.toList ++ List.replicate (a - s.size) 0) (by simp; omega)]
theorem written_long {s d : ByteArray} {a : Nat} (hd : d ≠ ⟨#[]⟩) (h : ¬ s.size ≤ a + d.size) : s.extract 0 a ++ d ++ s.extract (a + d.size) s.size = writtenB s a d := by
  have hne : d.data.toList ≠ [] := fun hh => hd (data_nil.2 hh)
  apply ba_ext
  unfold writtenB
  rw [bstr_list, app_list, app_list, ext_list, ext_list]
  have hds := dsize d
  have hss := dsize s
  unfold writeF
  rw [if_neg hne]
  unfold grownF zeros
  rw [show a + d.data.toList.length - s.data.toList.length = 0 by omega, List.replicate_zero, List.append_nil, List.drop_zero, Nat.sub_zero, hds]
  congr 1
  rw [List.take_of_length_le (by rw [List.length_drop]; omega)]
theorem written_spec (s : ByteArray) (a : Nat) (d : ByteArray) (ha : a ≤ 65536) (hd : d.size ≤ 65536) (hs : s.size ≤ 140737488351232) : Spec Tryd.prog 35 [.string s, .int .i64 (a : Int), .string d] [] (fun _ => True) (fun v L => v = .string (writtenB s a d) ∧ L = []) := by
  refine spec_of Tryd.func35 rfl Tryd.ntmps35 fun F hF => ?_
  have hzs : ∀ n, (zerosB n).size = n := fun n => by unfold zerosB zeros; rw [bstr_size]; simp
  by_cases c1 : d = ⟨#[]⟩
  · have d1 : Dec (d = ⟨#[]⟩) true := dec_t c1
    repeat (first | refine j_addN (by omega) rfl ?_ | refine j_subN (by omega) rfl ?_ | refine j_mulN (by omega) rfl ?_ | refine j_remN (by omega) rfl ?_ | refine j_addI (by omega) (by omega) rfl ?_ | refine j_subI (by omega) (by omega) rfl ?_ | refine j_op rfl ?_ | refine j_pickF rfl ?_ | refine j_pickT rfl ?_ | refine j_region ?_ | refine j_nil ?_ | refine j_then ?_ | refine j_mono (by assumption) ?_ | (refine j_seq fun K hK => ?_) | refine j_gdo rfl ?_ | refine j_gskip_t rfl ?_ | refine j_gskip_f rfl ?_ | refine j_gskip_u rfl ?_ | refine j_gspec rfl ?_ | refine j_block ?_ | refine j_ret ?_ | refine j_then_ret ?_ | refine j_in_ret ?_ | refine j_in_normal ?_ | refine j_exit ?_ | refine j_then_exit ?_ | refine j_in_exit ?_ | refine j_in_past ?_ | refine j_skip ?_ | refine j_cond_t ?_ | refine j_cond_f ?_ | refine j_store rfl ?_ | refine j_still_nil ?_ | (refine j_buildSlice rfl rfl rfl rfl fun bx => ?_) | (refine j_alloc rfl fun bx => ?_) | (refine j_box rfl fun bx => ?_))
    (first | refine j_done (.inl rfl) ?_ | refine j_done (.inr rfl) ?_ | refine j_doneM (.inl rfl) ?_ | refine j_doneM (.inr rfl) ?_)
    exact ⟨_, ⟨by unfold writtenB writeF; rw [if_pos (data_nil.1 c1), bstr_self], rfl⟩, LE.nil⟩
  have d1 : Dec (d = ⟨#[]⟩) false := dec_f c1
  have f0 : Ft (a + d.size ≤ 9223372036854775807) := ⟨by omega⟩
  by_cases c2 : s.size < a
  · have d2 : Dec ((s.size : Int) < (a : Int)) true := dec_t (by omega)
    have f1 : Ft (s.size ≤ a ∧ a ≤ 9223372036854775807) := ⟨by omega⟩
    have hz := hzs (a - s.size)
    have f2 : Ft (s.size + (zerosB (a - s.size)).size ≤ 9223372036854775807) := ⟨by omega⟩
    have hsz : (s ++ zerosB (a - s.size)).size = a := by rw [ByteArray.size_append]; omega
    have d3 : Dec ((((s ++ zerosB (a - s.size)).size : Nat) : Int) ≤ ((a + d.size : Nat) : Int)) true := dec_t (by omega)
    have f3 : Ft (a ≤ (s ++ zerosB (a - s.size)).size) := ⟨by omega⟩
    have f4 : Ft (((s ++ zerosB (a - s.size)).extract 0 a).size + d.size ≤ 9223372036854775807) := ⟨by rw [ByteArray.size_extract]; omega⟩
    repeat (first | refine j_addN (by omega) rfl ?_ | refine j_subN (by omega) rfl ?_ | refine j_mulN (by omega) rfl ?_ | refine j_remN (by omega) rfl ?_ | refine j_addI (by omega) (by omega) rfl ?_ | refine j_subI (by omega) (by omega) rfl ?_ | refine j_op rfl ?_ | refine j_pickF rfl ?_ | refine j_pickT rfl ?_ | refine j_region ?_ | refine j_nil ?_ | refine j_then ?_ | refine j_mono (by assumption) ?_ | (refine j_seq fun K hK => ?_) | refine j_gdo rfl ?_ | refine j_gskip_t rfl ?_ | refine j_gskip_f rfl ?_ | refine j_gskip_u rfl ?_ | refine j_gspec rfl ?_ | refine j_block ?_ | refine j_ret ?_ | refine j_then_ret ?_ | refine j_in_ret ?_ | refine j_in_normal ?_ | refine j_exit ?_ | refine j_then_exit ?_ | refine j_in_exit ?_ | refine j_in_past ?_ | refine j_skip ?_ | refine j_cond_t ?_ | refine j_cond_f ?_ | refine j_store rfl ?_ | refine j_still_nil ?_ | (refine j_buildSlice rfl rfl rfl rfl fun bx => ?_) | (refine j_alloc rfl fun bx => ?_) | (refine j_box rfl fun bx => ?_))
    refine j_call (zeros_spec (a - s.size) (by omega)) rfl .nil (fun _ _ => trivial) ?_
    rintro _ _ ⟨rfl, rfl⟩
    simp only [List.cons_append, List.nil_append]
    repeat (first | refine j_addN (by omega) rfl ?_ | refine j_subN (by omega) rfl ?_ | refine j_mulN (by omega) rfl ?_ | refine j_remN (by omega) rfl ?_ | refine j_addI (by omega) (by omega) rfl ?_ | refine j_subI (by omega) (by omega) rfl ?_ | refine j_op rfl ?_ | refine j_pickF rfl ?_ | refine j_pickT rfl ?_ | refine j_region ?_ | refine j_nil ?_ | refine j_then ?_ | refine j_mono (by assumption) ?_ | (refine j_seq fun K hK => ?_) | refine j_gdo rfl ?_ | refine j_gskip_t rfl ?_ | refine j_gskip_f rfl ?_ | refine j_gskip_u rfl ?_ | refine j_gspec rfl ?_ | refine j_block ?_ | refine j_ret ?_ | refine j_then_ret ?_ | refine j_in_ret ?_ | refine j_in_normal ?_ | refine j_exit ?_ | refine j_then_exit ?_ | refine j_in_exit ?_ | refine j_in_past ?_ | refine j_skip ?_ | refine j_cond_t ?_ | refine j_cond_f ?_ | refine j_store rfl ?_ | refine j_still_nil ?_ | (refine j_buildSlice rfl rfl rfl rfl fun bx => ?_) | (refine j_alloc rfl fun bx => ?_) | (refine j_box rfl fun bx => ?_))
    (first | refine j_done (.inl rfl) ?_ | refine j_done (.inr rfl) ?_ | refine j_doneM (.inl rfl) ?_ | refine j_doneM (.inr rfl) ?_)
    exact ⟨_, ⟨by rw [written_short c1 (by omega)], rfl⟩, LE.nil⟩
  have d2 : Dec ((s.size : Int) < (a : Int)) false := dec_f (by omega)
  have f3 : Ft (a ≤ s.size) := ⟨by omega⟩
  have f4 : Ft ((s.extract 0 a).size + d.size ≤ 9223372036854775807) := ⟨by rw [ByteArray.size_extract]; omega⟩
  by_cases c3 : s.size ≤ a + d.size
  · have d3 : Dec ((s.size : Int) ≤ ((a + d.size : Nat) : Int)) true := dec_t (by omega)
    have hw := written_short c1 c3
    rw [show a - s.size = 0 by omega, show s ++ zerosB 0 = s from ba_ext (by rw [app_list]; unfold zerosB zeros; rw [bstr_list]; simp)] at hw
    repeat (first | refine j_addN (by omega) rfl ?_ | refine j_subN (by omega) rfl ?_ | refine j_mulN (by omega) rfl ?_ | refine j_remN (by omega) rfl ?_ | refine j_addI (by omega) (by omega) rfl ?_ | refine j_subI (by omega) (by omega) rfl ?_ | refine j_op rfl ?_ | refine j_pickF rfl ?_ | refine j_pickT rfl ?_ | refine j_region ?_ | refine j_nil ?_ | refine j_then ?_ | refine j_mono (by assumption) ?_ | (refine j_seq fun K hK => ?_) | refine j_gdo rfl ?_ | refine j_gskip_t rfl ?_ | refine j_gskip_f rfl ?_ | refine j_gskip_u rfl ?_ | refine j_gspec rfl ?_ | refine j_block ?_ | refine j_ret ?_ | refine j_then_ret ?_ | refine j_in_ret ?_ | refine j_in_normal ?_ | refine j_exit ?_ | refine j_then_exit ?_ | refine j_in_exit ?_ | refine j_in_past ?_ | refine j_skip ?_ | refine j_cond_t ?_ | refine j_cond_f ?_ | refine j_store rfl ?_ | refine j_still_nil ?_ | (refine j_buildSlice rfl rfl rfl rfl fun bx => ?_) | (refine j_alloc rfl fun bx => ?_) | (refine j_box rfl fun bx => ?_))
    (first | refine j_done (.inl rfl) ?_ | refine j_done (.inr rfl) ?_ | refine j_doneM (.inl rfl) ?_ | refine j_doneM (.inr rfl) ?_)
    exact ⟨_, ⟨by rw [← hw], rfl⟩, LE.nil⟩
  · have d3 : Dec ((s.size : Int) ≤ ((a + d.size : Nat) : Int)) false := dec_f (by omega)
    have f5 : Ft (a + d.size ≤ s.size) := ⟨by omega⟩
    have f6 : Ft ((s.extract 0 a ++ d).size + (s.extract (a + d.size) s.size).size ≤ 9223372036854775807) := ⟨by rw [ByteArray.size_append, ByteArray.size_extract, ByteArray.size_extract]; omega⟩
    repeat (first | refine j_addN (by omega) rfl ?_ | refine j_subN (by omega) rfl ?_ | refine j_mulN (by omega) rfl ?_ | refine j_remN (by omega) rfl ?_ | refine j_addI (by omega) (by omega) rfl ?_ | refine j_subI (by omega) (by omega) rfl ?_ | refine j_op rfl ?_ | refine j_pickF rfl ?_ | refine j_pickT rfl ?_ | refine j_region ?_ | refine j_nil ?_ | refine j_then ?_ | refine j_mono (by assumption) ?_ | (refine j_seq fun K hK => ?_) | refine j_gdo rfl ?_ | refine j_gskip_t rfl ?_ | refine j_gskip_f rfl ?_ | refine j_gskip_u rfl ?_ | refine j_gspec rfl ?_ | refine j_block ?_ | refine j_ret ?_ | refine j_then_ret ?_ | refine j_in_ret ?_ | refine j_in_normal ?_ | refine j_exit ?_ | refine j_then_exit ?_ | refine j_in_exit ?_ | refine j_in_past ?_ | refine j_skip ?_ | refine j_cond_t ?_ | refine j_cond_f ?_ | refine j_store rfl ?_ | refine j_still_nil ?_ | (refine j_buildSlice rfl rfl rfl rfl fun bx => ?_) | (refine j_alloc rfl fun bx => ?_) | (refine j_box rfl fun bx => ?_))
    refine j_region_still mixed (by kernel_rfl) ?_
    repeat (first | refine j_addN (by omega) rfl ?_ | refine j_subN (by omega) rfl ?_ | refine j_mulN (by omega) rfl ?_ | refine j_remN (by omega) rfl ?_ | refine j_addI (by omega) (by omega) rfl ?_ | refine j_subI (by omega) (by omega) rfl ?_ | refine j_op rfl ?_ | refine j_pickF rfl ?_ | refine j_pickT rfl ?_ | refine j_region ?_ | refine j_nil ?_ | refine j_then ?_ | refine j_mono (by assumption) ?_ | (refine j_seq fun K hK => ?_) | refine j_gdo rfl ?_ | refine j_gskip_t rfl ?_ | refine j_gskip_f rfl ?_ | refine j_gskip_u rfl ?_ | refine j_gspec rfl ?_ | refine j_block ?_ | refine j_ret ?_ | refine j_then_ret ?_ | refine j_in_ret ?_ | refine j_in_normal ?_ | refine j_exit ?_ | refine j_then_exit ?_ | refine j_in_exit ?_ | refine j_in_past ?_ | refine j_skip ?_ | refine j_cond_t ?_ | refine j_cond_f ?_ | refine j_store rfl ?_ | refine j_still_nil ?_ | (refine j_buildSlice rfl rfl rfl rfl fun bx => ?_) | (refine j_alloc rfl fun bx => ?_) | (refine j_box rfl fun bx => ?_))
    (first | refine j_done (.inl rfl) ?_ | refine j_done (.inr rfl) ?_ | refine j_doneM (.inl rfl) ?_ | refine j_doneM (.inr rfl) ?_)
    exact ⟨_, ⟨by rw [← written_long c1 c3], rfl⟩, LE.nil⟩
def cutB (s : ByteArray) (n : Nat) : ByteArray := bstr (cutF s.data.toList n)
theorem cutr_spec (s : ByteArray) (n : Nat) (hn : n ≤ 65536) (hs : s.size ≤ 140737488351232) : Spec Tryd.prog 34 [.string s, .int .i64 (n : Int)] [] (fun _ => True) (fun v L => v = .string (cutB s n) ∧ L = []) := by
  refine spec_of Tryd.func34 rfl Tryd.ntmps34 fun F hF => ?_
  have hss := dsize s
  by_cases c1 : n ≤ s.size
  · have d1 : Dec ((n : Int) ≤ (s.size : Int)) true := dec_t (by omega)
    have f1 : Ft (n ≤ s.size) := ⟨c1⟩
    repeat (first | refine j_addN (by omega) rfl ?_ | refine j_subN (by omega) rfl ?_ | refine j_mulN (by omega) rfl ?_ | refine j_remN (by omega) rfl ?_ | refine j_addI (by omega) (by omega) rfl ?_ | refine j_subI (by omega) (by omega) rfl ?_ | refine j_op rfl ?_ | refine j_pickF rfl ?_ | refine j_pickT rfl ?_ | refine j_region ?_ | refine j_nil ?_ | refine j_then ?_ | refine j_mono (by assumption) ?_ | (refine j_seq fun K hK => ?_) | refine j_gdo rfl ?_ | refine j_gskip_t rfl ?_ | refine j_gskip_f rfl ?_ | refine j_gskip_u rfl ?_ | refine j_gspec rfl ?_ | refine j_block ?_ | refine j_ret ?_ | refine j_then_ret ?_ | refine j_in_ret ?_ | refine j_in_normal ?_ | refine j_exit ?_ | refine j_then_exit ?_ | refine j_in_exit ?_ | refine j_in_past ?_ | refine j_skip ?_ | refine j_cond_t ?_ | refine j_cond_f ?_ | refine j_store rfl ?_ | refine j_still_nil ?_ | (refine j_buildSlice rfl rfl rfl rfl fun bx => ?_) | (refine j_alloc rfl fun bx => ?_) | (refine j_box rfl fun bx => ?_))
    (first | refine j_done (.inl rfl) ?_ | refine j_done (.inr rfl) ?_ | refine j_doneM (.inl rfl) ?_ | refine j_doneM (.inr rfl) ?_)
    refine ⟨_, ⟨?_, rfl⟩, LE.nil⟩
    congr 1
    apply ba_ext
    unfold cutB cutF zeros
    rw [bstr_list, ext_list, show n - s.data.toList.length = 0 by omega]
    simp
  · have d1 : Dec ((n : Int) ≤ (s.size : Int)) false := dec_f (by omega)
    have f1 : Ft (s.size ≤ n ∧ n ≤ 9223372036854775807) := ⟨by omega⟩
    have hz : (zerosB (n - s.size)).size = n - s.size := by unfold zerosB zeros; rw [bstr_size]; simp
    have f2 : Ft (s.size + (zerosB (n - s.size)).size ≤ 9223372036854775807) := ⟨by omega⟩
    repeat (first | refine j_addN (by omega) rfl ?_ | refine j_subN (by omega) rfl ?_ | refine j_mulN (by omega) rfl ?_ | refine j_remN (by omega) rfl ?_ | refine j_addI (by omega) (by omega) rfl ?_ | refine j_subI (by omega) (by omega) rfl ?_ | refine j_op rfl ?_ | refine j_pickF rfl ?_ | refine j_pickT rfl ?_ | refine j_region ?_ | refine j_nil ?_ | refine j_then ?_ | refine j_mono (by assumption) ?_ | (refine j_seq fun K hK => ?_) | refine j_gdo rfl ?_ | refine j_gskip_t rfl ?_ | refine j_gskip_f rfl ?_ | refine j_gskip_u rfl ?_ | refine j_gspec rfl ?_ | refine j_block ?_ | refine j_ret ?_ | refine j_then_ret ?_ | refine j_in_ret ?_ | refine j_in_normal ?_ | refine j_exit ?_ | refine j_then_exit ?_ | refine j_in_exit ?_ | refine j_in_past ?_ | refine j_skip ?_ | refine j_cond_t ?_ | refine j_cond_f ?_ | refine j_store rfl ?_ | refine j_still_nil ?_ | (refine j_buildSlice rfl rfl rfl rfl fun bx => ?_) | (refine j_alloc rfl fun bx => ?_) | (refine j_box rfl fun bx => ?_))
    refine j_call (zeros_spec (n - s.size) (by omega)) rfl .nil (fun _ _ => trivial) ?_
    rintro _ _ ⟨rfl, rfl⟩
    simp only [List.cons_append, List.nil_append]
    repeat (first | refine j_addN (by omega) rfl ?_ | refine j_subN (by omega) rfl ?_ | refine j_mulN (by omega) rfl ?_ | refine j_remN (by omega) rfl ?_ | refine j_addI (by omega) (by omega) rfl ?_ | refine j_subI (by omega) (by omega) rfl ?_ | refine j_op rfl ?_ | refine j_pickF rfl ?_ | refine j_pickT rfl ?_ | refine j_region ?_ | refine j_nil ?_ | refine j_then ?_ | refine j_mono (by assumption) ?_ | (refine j_seq fun K hK => ?_) | refine j_gdo rfl ?_ | refine j_gskip_t rfl ?_ | refine j_gskip_f rfl ?_ | refine j_gskip_u rfl ?_ | refine j_gspec rfl ?_ | refine j_block ?_ | refine j_ret ?_ | refine j_then_ret ?_ | refine j_in_ret ?_ | refine j_in_normal ?_ | refine j_exit ?_ | refine j_then_exit ?_ | refine j_in_exit ?_ | refine j_in_past ?_ | refine j_skip ?_ | refine j_cond_t ?_ | refine j_cond_f ?_ | refine j_store rfl ?_ | refine j_still_nil ?_ | (refine j_buildSlice rfl rfl rfl rfl fun bx => ?_) | (refine j_alloc rfl fun bx => ?_) | (refine j_box rfl fun bx => ?_))
    (first | refine j_done (.inl rfl) ?_ | refine j_done (.inr rfl) ?_ | refine j_doneM (.inl rfl) ?_ | refine j_doneM (.inr rfl) ?_)
    refine ⟨_, ⟨?_, rfl⟩, LE.nil⟩
    congr 1
    apply ba_ext
    unfold cutB cutF zerosB
    rw [bstr_list, app_list, bstr_list, List.take_of_length_le (by omega), hss]
end Go.Proofs.YtcoohckdnefacaaDoor.S
