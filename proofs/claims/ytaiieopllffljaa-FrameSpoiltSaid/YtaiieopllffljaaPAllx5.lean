-- Printed by wip/gprint.py of this session (the kit's print with given functions). Not trusted: Lean checks it.
import Derived.Test.YtaiieopllffljaaPAllx0
import Derived.Test.YtaiieopllffljaaPAllx1
import Derived.Test.YtaiieopllffljaaPAllx2
namespace Go.Proofs.Ytaiieopllffljaa.PAll
open Go.RowKit Go.Proofs.YtaiieopllffljaaW.PrintWords Go.Proofs.YtaiieopllffljaaW.PrintLast Go.Proofs.YtaiieopllffljaaW.PrintMore Go.Proofs.Ytaiieopllffljaa.G
attribute [local go_sem] max2_int min2_int max_two min_two max_three min_three max_four min_four   -- for this text's walks alone
set_option linter.unusedVariables false
set_option linter.unusedSimpArgs false

/-! ### casketlaw9_FrameBack: function 11 -/
mutual
def casketlaw9_FrameBack.j0 : Nat → ByteArray → Int → Int → ByteArray → Bool → Option (Bool)
  | 0, _, _, _, _, _ => none
  | k + 1, x2, x9, x10, x16, x83 => if x83 = true then (some false) else ((frame_Unpack.f x9 x16).bind fun bt201 => ((casketlaw9_num.f bt201.2).bind fun t203 => (if t203 = 0 then (casketlaw9_FrameBack.j1 k x9 x10 x16 (bt201.1.toList != x2.toList)) else (casketlaw9_FrameBack.j1 k x9 x10 x16 true))))
def casketlaw9_FrameBack.j1 : Nat → Int → Int → ByteArray → Bool → Option (Bool)
  | 0, _, _, _, _ => none
  | k + 1, x9, x10, x16, x97 => if x97 = true then (some false) else ((frame_Unpack.f x10 x16).bind fun bt204 => (if x10 = x9 then (some true) else (if bt204.1.toList = ([] : List UInt8) then ((casketlaw9_num.f bt204.2).bind fun t206 => (some (t206 == 92))) else (some false))))
end
def casketlaw9_FrameBack.f (k : Nat) (a0 : Int) (a1 : Int) (a2 : ByteArray) (a3 : Int) : Option (Bool) := (casketlaw9_clipped.f a0 1 255).bind fun t189 => ((casketlaw9_clipped.f a1 0 256).bind fun t190 => ((casketlaw9_clipped.f a3 0 70000).bind fun t191 => (if (a2.size : Int) > 1048571 then ((frame_Pack.f t189 a2 1048576).bind fun bt192 => (if bt192.1.toList = ([] : List UInt8) then ((casketlaw9_num.f bt192.2).bind fun t194 => (some (t194 == 90))) else (some false))) else ((frame_Size.f k (a2.size : Int) t191).bind fun bt195 => ((frame_Pack.f t189 a2 bt195.1).bind fun bt197 => ((casketlaw9_num.f bt195.2).bind fun t199 => (if t199 = 0 then ((casketlaw9_num.f bt197.2).bind fun t200 => (if t200 = 0 then (if (bt197.1.size : Int) = bt195.1 then (if bt195.1 < t191 then (casketlaw9_FrameBack.j0 k a2 t189 t190 bt197.1 true) else (casketlaw9_FrameBack.j0 k a2 t189 t190 bt197.1 (decide (bt195.1 < (wrap64 ((a2.size : Int) + 5)))))) else (casketlaw9_FrameBack.j0 k a2 t189 t190 bt197.1 true)) else (casketlaw9_FrameBack.j0 k a2 t189 t190 bt197.1 true))) else (casketlaw9_FrameBack.j0 k a2 t189 t190 bt197.1 true))))))))
theorem casketlaw9_FrameBack.mono_l : ∀ k, (∀ y0 y1 y2 y3 y4, LeO (casketlaw9_FrameBack.j0 k y0 y1 y2 y3 y4) (casketlaw9_FrameBack.j0 (k + 1) y0 y1 y2 y3 y4)) ∧ (∀ y0 y1 y2 y3, LeO (casketlaw9_FrameBack.j1 k y0 y1 y2 y3) (casketlaw9_FrameBack.j1 (k + 1) y0 y1 y2 y3))
  | 0 => ⟨fun _ _ _ _ _ r h => by simp [casketlaw9_FrameBack.j0] at h, fun _ _ _ _ r h => by simp [casketlaw9_FrameBack.j1] at h⟩
  | k + 1 => by
    obtain ⟨ih0, ih1⟩ := casketlaw9_FrameBack.mono_l k
    refine ⟨?_, ?_⟩
    · intro y0 y1 y2 y3 y4
      unfold casketlaw9_FrameBack.j0
      repeat' first
      | (with_reducible exact ih0 _ _ _ _ _)
      | (with_reducible exact ih1 _ _ _ _)
      | (with_reducible exact frame_Size.mono _ _ _)
      | (with_reducible exact LeO.refl _)
      | (with_reducible exact LeO.none _)
      | (with_reducible refine LeO.ite ?_ ?_)
      | (with_reducible refine LeO.bind ?_ (fun _ => ?_))
      | exact ih0 _ _ _ _ _
      | exact ih1 _ _ _ _
      | exact frame_Size.mono _ _ _
      | exact LeO.none _
      | refine LeO.ite ?_ ?_
      | refine LeO.bind ?_ (fun _ => ?_)
    · intro y0 y1 y2 y3
      unfold casketlaw9_FrameBack.j1
      repeat' first
      | (with_reducible exact ih0 _ _ _ _ _)
      | (with_reducible exact ih1 _ _ _ _)
      | (with_reducible exact frame_Size.mono _ _ _)
      | (with_reducible exact LeO.refl _)
      | (with_reducible exact LeO.none _)
      | (with_reducible refine LeO.ite ?_ ?_)
      | (with_reducible refine LeO.bind ?_ (fun _ => ?_))
      | exact ih0 _ _ _ _ _
      | exact ih1 _ _ _ _
      | exact frame_Size.mono _ _ _
      | exact LeO.none _
      | refine LeO.ite ?_ ?_
      | refine LeO.bind ?_ (fun _ => ?_)
theorem casketlaw9_FrameBack.mono : ∀ a0 a1 a2 a3 k, LeO (casketlaw9_FrameBack.f k a0 a1 a2 a3) (casketlaw9_FrameBack.f (k + 1) a0 a1 a2 a3) := by
  intro a0 a1 a2 a3 k
  obtain ⟨ih0, ih1⟩ := casketlaw9_FrameBack.mono_l k
  unfold casketlaw9_FrameBack.f
  repeat' first
      | (with_reducible exact ih0 _ _ _ _ _)
      | (with_reducible exact ih1 _ _ _ _)
      | (with_reducible exact frame_Size.mono _ _ _)
      | (with_reducible exact LeO.refl _)
      | (with_reducible exact LeO.none _)
      | (with_reducible refine LeO.ite ?_ ?_)
      | (with_reducible refine LeO.bind ?_ (fun _ => ?_))
      | exact ih0 _ _ _ _ _
      | exact ih1 _ _ _ _
      | exact frame_Size.mono _ _ _
      | exact LeO.none _
      | refine LeO.ite ?_ ?_
      | refine LeO.bind ?_ (fun _ => ?_)
set_option maxHeartbeats 8000000 in
set_option maxRecDepth 100000 in
theorem casketlaw9_FrameBack.calls (k : Nat) (a0 : Int) (a1 : Int) (a2 : ByteArray) (a3 : Int) (r : Bool) (w : World) (h : casketlaw9_FrameBack.f k a0 a1 a2 a3 = some r) :
    Calls Try.prog 11 #[.int .i64 a0, .int .i64 a1, .string a2, .int .i64 a3] w fun e w' => e = .returned (.bool r) ∧ Below w.heap.size w w' := by
  have HB := Aside0.mk (Below.refl w.heap.size w)
  have H : ((casketlaw9_clipped.f a0 1 255).bind fun t189 => ((casketlaw9_clipped.f a1 0 256).bind fun t190 => ((casketlaw9_clipped.f a3 0 70000).bind fun t191 => (if (a2.size : Int) > 1048571 then ((frame_Pack.f t189 a2 1048576).bind fun bt192 => (if bt192.1.toList = ([] : List UInt8) then ((casketlaw9_num.f bt192.2).bind fun t194 => (some (t194 == 90))) else (some false))) else ((frame_Size.f k (a2.size : Int) t191).bind fun bt195 => ((frame_Pack.f t189 a2 bt195.1).bind fun bt197 => ((casketlaw9_num.f bt195.2).bind fun t199 => (if t199 = 0 then ((casketlaw9_num.f bt197.2).bind fun t200 => (if t200 = 0 then (if (bt197.1.size : Int) = bt195.1 then (if bt195.1 < t191 then (casketlaw9_FrameBack.j0 k a2 t189 t190 bt197.1 true) else (casketlaw9_FrameBack.j0 k a2 t189 t190 bt197.1 (decide (bt195.1 < (wrap64 ((a2.size : Int) + 5)))))) else (casketlaw9_FrameBack.j0 k a2 t189 t190 bt197.1 true)) else (casketlaw9_FrameBack.j0 k a2 t189 t190 bt197.1 true))) else (casketlaw9_FrameBack.j0 k a2 t189 t190 bt197.1 true))))))))) = some r := h
  clear h
  replace H := Option.bind_eq_some_iff.mp H
  obtain ⟨t189, A50, H⟩ := H
  replace H : ((casketlaw9_clipped.f a1 0 256).bind fun t190 => ((casketlaw9_clipped.f a3 0 70000).bind fun t191 => (if (a2.size : Int) > 1048571 then ((frame_Pack.f t189 a2 1048576).bind fun bt192 => (if bt192.1.toList = ([] : List UInt8) then ((casketlaw9_num.f bt192.2).bind fun t194 => (some (t194 == 90))) else (some false))) else ((frame_Size.f k (a2.size : Int) t191).bind fun bt195 => ((frame_Pack.f t189 a2 bt195.1).bind fun bt197 => ((casketlaw9_num.f bt195.2).bind fun t199 => (if t199 = 0 then ((casketlaw9_num.f bt197.2).bind fun t200 => (if t200 = 0 then (if (bt197.1.size : Int) = bt195.1 then (if bt195.1 < t191 then (casketlaw9_FrameBack.j0 k a2 t189 t190 bt197.1 true) else (casketlaw9_FrameBack.j0 k a2 t189 t190 bt197.1 (decide (bt195.1 < (wrap64 ((a2.size : Int) + 5)))))) else (casketlaw9_FrameBack.j0 k a2 t189 t190 bt197.1 true)) else (casketlaw9_FrameBack.j0 k a2 t189 t190 bt197.1 true))) else (casketlaw9_FrameBack.j0 k a2 t189 t190 bt197.1 true)))))))) = some r := H
  have A5 := Aside0.mk A50
  clear A50
  replace H := Option.bind_eq_some_iff.mp H
  obtain ⟨t190, A60, H⟩ := H
  replace H : ((casketlaw9_clipped.f a3 0 70000).bind fun t191 => (if (a2.size : Int) > 1048571 then ((frame_Pack.f t189 a2 1048576).bind fun bt192 => (if bt192.1.toList = ([] : List UInt8) then ((casketlaw9_num.f bt192.2).bind fun t194 => (some (t194 == 90))) else (some false))) else ((frame_Size.f k (a2.size : Int) t191).bind fun bt195 => ((frame_Pack.f t189 a2 bt195.1).bind fun bt197 => ((casketlaw9_num.f bt195.2).bind fun t199 => (if t199 = 0 then ((casketlaw9_num.f bt197.2).bind fun t200 => (if t200 = 0 then (if (bt197.1.size : Int) = bt195.1 then (if bt195.1 < t191 then (casketlaw9_FrameBack.j0 k a2 t189 t190 bt197.1 true) else (casketlaw9_FrameBack.j0 k a2 t189 t190 bt197.1 (decide (bt195.1 < (wrap64 ((a2.size : Int) + 5)))))) else (casketlaw9_FrameBack.j0 k a2 t189 t190 bt197.1 true)) else (casketlaw9_FrameBack.j0 k a2 t189 t190 bt197.1 true))) else (casketlaw9_FrameBack.j0 k a2 t189 t190 bt197.1 true))))))) = some r := H
  have A6 := Aside0.mk A60
  clear A60
  replace H := Option.bind_eq_some_iff.mp H
  obtain ⟨t191, A70, H⟩ := H
  replace H : (if (a2.size : Int) > 1048571 then ((frame_Pack.f t189 a2 1048576).bind fun bt192 => (if bt192.1.toList = ([] : List UInt8) then ((casketlaw9_num.f bt192.2).bind fun t194 => (some (t194 == 90))) else (some false))) else ((frame_Size.f k (a2.size : Int) t191).bind fun bt195 => ((frame_Pack.f t189 a2 bt195.1).bind fun bt197 => ((casketlaw9_num.f bt195.2).bind fun t199 => (if t199 = 0 then ((casketlaw9_num.f bt197.2).bind fun t200 => (if t200 = 0 then (if (bt197.1.size : Int) = bt195.1 then (if bt195.1 < t191 then (casketlaw9_FrameBack.j0 k a2 t189 t190 bt197.1 true) else (casketlaw9_FrameBack.j0 k a2 t189 t190 bt197.1 (decide (bt195.1 < (wrap64 ((a2.size : Int) + 5)))))) else (casketlaw9_FrameBack.j0 k a2 t189 t190 bt197.1 true)) else (casketlaw9_FrameBack.j0 k a2 t189 t190 bt197.1 true))) else (casketlaw9_FrameBack.j0 k a2 t189 t190 bt197.1 true)))))) = some r := H
  have A7 := Aside0.mk A70
  clear A70
  by_cases c8 : (a2.size : Int) > 1048571
  · rw [if_pos c8] at H
    have c8b0 : decide (1048571 < (a2.size : Int)) = true := decide_eq_true c8
    have c8b1 : decide (1048571 < a2.size) = true := decide_eq_true (by omega)
    clear c8
    replace H := Option.bind_eq_some_iff.mp H
    obtain ⟨⟨t192, t193⟩, A90, H⟩ := H
    replace H : (if t192.toList = ([] : List UInt8) then ((casketlaw9_num.f t193).bind fun t194 => (some (t194 == 90))) else (some false)) = some r := H
    have A9 := Aside0.mk A90
    clear A90
    by_cases c10 : t192.toList = ([] : List UInt8)
    · rw [if_pos c10] at H
      have c10b0 : (t192.toList == ([] : List UInt8)) = true := beq_iff_eq.mpr c10
      have c10b1 : (t192.toList != ([] : List UInt8)) = false := bne_eq_false_iff_eq.mpr c10
      clear c10
      replace H := Option.bind_eq_some_iff.mp H
      obtain ⟨t194, A110, H⟩ := H
      replace H : (some (t194 == 90)) = some r := H
      have A11 := Aside0.mk A110
      clear A110
      obtain rfl := Option.some.inj H
      go_enter Try.func11, Try.ntmps11
      go_wp2_with (first | ((with_reducible refine gate_callee (f := 19) rfl ?_); refine goesL_ (some 23) rfl rfl Try.func19 (by kernel_rfl) rfl #[.int .i64 a0, .int .i64 1, .int .i64 255] rfl (by (try simp only [List.map_toArray, List.map_cons, List.map_nil]); first | done | rfl | (simp only [List.length_drop, List.length_take]; rfl)) ?_; (with_reducible refine (casketlaw9_clipped.calls a0 1 255 t189 _ A5.out).mono ?_); rintro e w' ⟨rfl, ⟨nd, rfl⟩⟩; refine ⟨_, rfl, ?_⟩) | ((with_reducible refine gate_callee (f := 19) rfl ?_); refine goesL_ (some 25) rfl rfl Try.func19 (by kernel_rfl) rfl #[.int .i64 a1, .int .i64 0, .int .i64 256] rfl (by (try simp only [List.map_toArray, List.map_cons, List.map_nil]); first | done | rfl | (simp only [List.length_drop, List.length_take]; rfl)) ?_; (with_reducible refine (casketlaw9_clipped.calls a1 0 256 t190 _ A6.out).mono ?_); rintro e w' ⟨rfl, ⟨nd, rfl⟩⟩; refine ⟨_, rfl, ?_⟩) | ((with_reducible refine gate_callee (f := 19) rfl ?_); refine goesL_ (some 27) rfl rfl Try.func19 (by kernel_rfl) rfl #[.int .i64 a3, .int .i64 0, .int .i64 70000] rfl (by (try simp only [List.map_toArray, List.map_cons, List.map_nil]); first | done | rfl | (simp only [List.length_drop, List.length_take]; rfl)) ?_; (with_reducible refine (casketlaw9_clipped.calls a3 0 70000 t191 _ A7.out).mono ?_); rintro e w' ⟨rfl, ⟨nd, rfl⟩⟩; refine ⟨_, rfl, ?_⟩) | ((with_reducible refine gate_callee (f := 23) rfl ?_); refine goesL_ (some 34) rfl rfl Try.func23 (by kernel_rfl) rfl #[.int .i64 t189, .string a2, .int .i64 1048576] rfl (by (try simp only [List.map_toArray, List.map_cons, List.map_nil]); first | done | rfl | (simp only [List.length_drop, List.length_take]; rfl)) ?_; (with_reducible refine (frame_Pack.calls t189 a2 1048576 t192 t193 _ A9.out).mono ?_); rintro e w12 ⟨rfl, hb⟩; refine ⟨_, rfl, ?_⟩; have n0_ := Aside0.mk (below_step (by repeat (first | (with_reducible first | exact HB.out | apply below_alloc | apply pw_below_drewN | apply below_drew1) | exact HB.out)) hb); clear HB; have HB := n0_; clear n0_; (try clear hb); (try clear hb2); (try clear hk); (try clear hi)) | (go_at_call 14; (with_reducible refine (casketlaw9_num.calls t193 t194 _ A11.out).mono ?_); rintro e w' ⟨rfl, ⟨nd, rfl⟩⟩))
      go_ret
      exact ⟨by first | rfl | (simp [errW_none, errW_some] <;> rfl) | (simp [*, errW_none, errW_some] <;> rfl), by repeat (first | (with_reducible first | exact HB.out | apply below_alloc | apply pw_below_drewN | apply below_drew1) | exact HB.out)⟩
    · rw [if_neg c10] at H
      have c10b0 : (t192.toList == ([] : List UInt8)) = false := beq_eq_false_iff_ne.mpr c10
      have c10b1 : (t192.toList != ([] : List UInt8)) = true := bne_iff_ne.mpr c10
      obtain rfl := Option.some.inj H
      go_enter Try.func11, Try.ntmps11
      go_wp2_with (first | ((with_reducible refine gate_callee (f := 19) rfl ?_); refine goesL_ (some 23) rfl rfl Try.func19 (by kernel_rfl) rfl #[.int .i64 a0, .int .i64 1, .int .i64 255] rfl (by (try simp only [List.map_toArray, List.map_cons, List.map_nil]); first | done | rfl | (simp only [List.length_drop, List.length_take]; rfl)) ?_; (with_reducible refine (casketlaw9_clipped.calls a0 1 255 t189 _ A5.out).mono ?_); rintro e w' ⟨rfl, ⟨nd, rfl⟩⟩; refine ⟨_, rfl, ?_⟩) | ((with_reducible refine gate_callee (f := 19) rfl ?_); refine goesL_ (some 25) rfl rfl Try.func19 (by kernel_rfl) rfl #[.int .i64 a1, .int .i64 0, .int .i64 256] rfl (by (try simp only [List.map_toArray, List.map_cons, List.map_nil]); first | done | rfl | (simp only [List.length_drop, List.length_take]; rfl)) ?_; (with_reducible refine (casketlaw9_clipped.calls a1 0 256 t190 _ A6.out).mono ?_); rintro e w' ⟨rfl, ⟨nd, rfl⟩⟩; refine ⟨_, rfl, ?_⟩) | ((with_reducible refine gate_callee (f := 19) rfl ?_); refine goesL_ (some 27) rfl rfl Try.func19 (by kernel_rfl) rfl #[.int .i64 a3, .int .i64 0, .int .i64 70000] rfl (by (try simp only [List.map_toArray, List.map_cons, List.map_nil]); first | done | rfl | (simp only [List.length_drop, List.length_take]; rfl)) ?_; (with_reducible refine (casketlaw9_clipped.calls a3 0 70000 t191 _ A7.out).mono ?_); rintro e w' ⟨rfl, ⟨nd, rfl⟩⟩; refine ⟨_, rfl, ?_⟩) | ((with_reducible refine gate_callee (f := 23) rfl ?_); refine goesL_ (some 34) rfl rfl Try.func23 (by kernel_rfl) rfl #[.int .i64 t189, .string a2, .int .i64 1048576] rfl (by (try simp only [List.map_toArray, List.map_cons, List.map_nil]); first | done | rfl | (simp only [List.length_drop, List.length_take]; rfl)) ?_; (with_reducible refine (frame_Pack.calls t189 a2 1048576 t192 t193 _ A9.out).mono ?_); rintro e w13 ⟨rfl, hb⟩; refine ⟨_, rfl, ?_⟩; have n0_ := Aside0.mk (below_step (by repeat (first | (with_reducible first | exact HB.out | apply below_alloc | apply pw_below_drewN | apply below_drew1) | exact HB.out)) hb); clear HB; have HB := n0_; clear n0_; (try clear hb); (try clear hb2); (try clear hk); (try clear hi)))
      go_ret
      exact ⟨by first | rfl | (simp [errW_none, errW_some] <;> rfl) | (simp [*, errW_none, errW_some] <;> rfl), by repeat (first | (with_reducible first | exact HB.out | apply below_alloc | apply pw_below_drewN | apply below_drew1) | exact HB.out)⟩
  · rw [if_neg c8] at H
    have c8b0 : decide (1048571 < (a2.size : Int)) = false := decide_eq_false c8
    have c8b1 : decide (1048571 < a2.size) = false := decide_eq_false (by omega)
    clear c8
    replace H := Option.bind_eq_some_iff.mp H
    obtain ⟨⟨t195, t196⟩, A140, H⟩ := H
    replace H : ((frame_Pack.f t189 a2 t195).bind fun bt197 => ((casketlaw9_num.f t196).bind fun t199 => (if t199 = 0 then ((casketlaw9_num.f bt197.2).bind fun t200 => (if t200 = 0 then (if (bt197.1.size : Int) = t195 then (if t195 < t191 then (casketlaw9_FrameBack.j0 k a2 t189 t190 bt197.1 true) else (casketlaw9_FrameBack.j0 k a2 t189 t190 bt197.1 (decide (t195 < (wrap64 ((a2.size : Int) + 5)))))) else (casketlaw9_FrameBack.j0 k a2 t189 t190 bt197.1 true)) else (casketlaw9_FrameBack.j0 k a2 t189 t190 bt197.1 true))) else (casketlaw9_FrameBack.j0 k a2 t189 t190 bt197.1 true)))) = some r := H
    have A14 := Aside0.mk A140
    clear A140
    replace H := Option.bind_eq_some_iff.mp H
    obtain ⟨⟨t197, t198⟩, A150, H⟩ := H
    replace H : ((casketlaw9_num.f t196).bind fun t199 => (if t199 = 0 then ((casketlaw9_num.f t198).bind fun t200 => (if t200 = 0 then (if (t197.size : Int) = t195 then (if t195 < t191 then (casketlaw9_FrameBack.j0 k a2 t189 t190 t197 true) else (casketlaw9_FrameBack.j0 k a2 t189 t190 t197 (decide (t195 < (wrap64 ((a2.size : Int) + 5)))))) else (casketlaw9_FrameBack.j0 k a2 t189 t190 t197 true)) else (casketlaw9_FrameBack.j0 k a2 t189 t190 t197 true))) else (casketlaw9_FrameBack.j0 k a2 t189 t190 t197 true))) = some r := H
    have A15 := Aside0.mk A150
    clear A150
    have HC16 := Aside0.mk H
    clear H
    go_enter Try.func11, Try.ntmps11
    go_upto_region 9 with (first | ((with_reducible refine gate_callee (f := 19) rfl ?_); refine goesL_ (some 23) rfl rfl Try.func19 (by kernel_rfl) rfl #[.int .i64 a0, .int .i64 1, .int .i64 255] rfl (by (try simp only [List.map_toArray, List.map_cons, List.map_nil]); first | done | rfl | (simp only [List.length_drop, List.length_take]; rfl)) ?_; (with_reducible refine (casketlaw9_clipped.calls a0 1 255 t189 _ A5.out).mono ?_); rintro e w' ⟨rfl, ⟨nd, rfl⟩⟩; refine ⟨_, rfl, ?_⟩) | ((with_reducible refine gate_callee (f := 19) rfl ?_); refine goesL_ (some 25) rfl rfl Try.func19 (by kernel_rfl) rfl #[.int .i64 a1, .int .i64 0, .int .i64 256] rfl (by (try simp only [List.map_toArray, List.map_cons, List.map_nil]); first | done | rfl | (simp only [List.length_drop, List.length_take]; rfl)) ?_; (with_reducible refine (casketlaw9_clipped.calls a1 0 256 t190 _ A6.out).mono ?_); rintro e w' ⟨rfl, ⟨nd, rfl⟩⟩; refine ⟨_, rfl, ?_⟩) | ((with_reducible refine gate_callee (f := 19) rfl ?_); refine goesL_ (some 27) rfl rfl Try.func19 (by kernel_rfl) rfl #[.int .i64 a3, .int .i64 0, .int .i64 70000] rfl (by (try simp only [List.map_toArray, List.map_cons, List.map_nil]); first | done | rfl | (simp only [List.length_drop, List.length_take]; rfl)) ?_; (with_reducible refine (casketlaw9_clipped.calls a3 0 70000 t191 _ A7.out).mono ?_); rintro e w' ⟨rfl, ⟨nd, rfl⟩⟩; refine ⟨_, rfl, ?_⟩) | ((with_reducible refine gate_callee (f := 17) rfl ?_); refine goesL_ (some 48) rfl rfl Try.func17 (by kernel_rfl) rfl #[.int .i64 (a2.size : Int), .int .i64 t191] rfl (by (try simp only [List.map_toArray, List.map_cons, List.map_nil]); first | done | rfl | (simp only [List.length_drop, List.length_take]; rfl)) ?_; (with_reducible refine (frame_Size.calls k (a2.size : Int) t191 t195 t196 _ A14.out).mono ?_); rintro e w17 ⟨rfl, hb⟩; refine ⟨_, rfl, ?_⟩; have n0_ := Aside0.mk (below_step (by repeat (first | (with_reducible first | exact HB.out | apply below_alloc | apply pw_below_drewN | apply below_drew1) | exact HB.out)) hb); clear HB; have HB := n0_; clear n0_; (try clear hb); (try clear hb2); (try clear hk); (try clear hi)) | ((with_reducible refine gate_callee (f := 23) rfl ?_); refine goesL_ (some 55) rfl rfl Try.func23 (by kernel_rfl) rfl #[.int .i64 t189, .string a2, .int .i64 t195] rfl (by (try simp only [List.map_toArray, List.map_cons, List.map_nil]); first | done | rfl | (simp only [List.length_drop, List.length_take]; rfl)) ?_; (with_reducible refine (frame_Pack.calls t189 a2 t195 t197 t198 _ A15.out).mono ?_); rintro e w18 ⟨rfl, hb⟩; refine ⟨_, rfl, ?_⟩; have n0_ := Aside0.mk (below_step (by repeat (first | (with_reducible first | exact HB.out | apply below_alloc | apply pw_below_drewN | apply below_drew1) | exact HB.out)) hb); clear HB; have HB := n0_; clear n0_; (try clear hb); (try clear hb2); (try clear hk); (try clear hi)))
    (try simp only [Act.put, List.setIfInBounds_toArray, List.set_cons_zero, List.set_cons_succ])
    go_cut [83] (fun v83 wc => ∃ (kq : Nat) (x83_15 : Bool), v83 = .bool x83_15 ∧ Aside0 (casketlaw9_FrameBack.j0 kq a2 t189 t190 t197 x83_15 = some r) ∧ Aside0 (kq ≤ k) ∧ Aside0 (Below w.heap.size w wc))
    case first =>
      have H := HC16.out
      clear HC16
      replace H := Option.bind_eq_some_iff.mp H
      obtain ⟨t199, A190, H⟩ := H
      replace H : (if t199 = 0 then ((casketlaw9_num.f t198).bind fun t200 => (if t200 = 0 then (if (t197.size : Int) = t195 then (if t195 < t191 then (casketlaw9_FrameBack.j0 k a2 t189 t190 t197 true) else (casketlaw9_FrameBack.j0 k a2 t189 t190 t197 (decide (t195 < (wrap64 ((a2.size : Int) + 5)))))) else (casketlaw9_FrameBack.j0 k a2 t189 t190 t197 true)) else (casketlaw9_FrameBack.j0 k a2 t189 t190 t197 true))) else (casketlaw9_FrameBack.j0 k a2 t189 t190 t197 true)) = some r := H
      have A19 := Aside0.mk A190
      clear A190
      by_cases c20 : t199 = 0
      · rw [if_pos c20] at H
        have c20b0 : (t199 == 0) = true := beq_iff_eq.mpr c20
        have c20b1 : (t199 != 0) = false := bne_eq_false_iff_eq.mpr c20
        clear c20
        (first | rw [c20b0] | (simp only [i64_w, i32_w]; rw [c20b0]) | skip)
        replace H := Option.bind_eq_some_iff.mp H
        obtain ⟨t200, A210, H⟩ := H
        replace H : (if t200 = 0 then (if (t197.size : Int) = t195 then (if t195 < t191 then (casketlaw9_FrameBack.j0 k a2 t189 t190 t197 true) else (casketlaw9_FrameBack.j0 k a2 t189 t190 t197 (decide (t195 < (wrap64 ((a2.size : Int) + 5)))))) else (casketlaw9_FrameBack.j0 k a2 t189 t190 t197 true)) else (casketlaw9_FrameBack.j0 k a2 t189 t190 t197 true)) = some r := H
        have A21 := Aside0.mk A210
        clear A210
        by_cases c22 : t200 = 0
        · rw [if_pos c22] at H
          have c22b0 : (t200 == 0) = true := beq_iff_eq.mpr c22
          have c22b1 : (t200 != 0) = false := bne_eq_false_iff_eq.mpr c22
          clear c22
          by_cases c23 : (t197.size : Int) = t195
          · rw [if_pos c23] at H
            have c23b0 : ((t197.size : Int) == t195) = true := beq_iff_eq.mpr c23
            have c23b1 : ((t197.size : Int) != t195) = false := bne_eq_false_iff_eq.mpr c23
            clear c23
            by_cases c24 : t195 < t191
            · rw [if_pos c24] at H
              have c24b0 : decide (t195 < t191) = true := decide_eq_true c24
              clear c24
              have H' := Aside0.mk H
              clear H
              go_wp2_with (first | ((with_reducible refine gate_callee (f := 14) rfl ?_); refine goesL_ (some 59) rfl rfl Try.func14 (by kernel_rfl) rfl #[.int .i64 t196] rfl (by (try simp only [List.map_toArray, List.map_cons, List.map_nil]); first | done | rfl | (simp only [List.length_drop, List.length_take]; rfl)) ?_; (with_reducible refine (casketlaw9_num.calls t196 t199 _ A19.out).mono ?_); rintro e w' ⟨rfl, ⟨nd, rfl⟩⟩; refine ⟨_, rfl, ?_⟩) | (go_at_call 14; (with_reducible refine (casketlaw9_num.calls t198 t200 _ A21.out).mono ?_); rintro e w' ⟨rfl, ⟨nd, rfl⟩⟩))
              go_meet
              case rel => exact ⟨_, (true), (by first | rfl | (simp; done) | (simp [*]; done)), H', ⟨by first | omega | exact Nat.le_refl _⟩, ⟨by repeat (first | (with_reducible first | exact HB.out | apply below_alloc | apply pw_below_drewN | apply below_drew1) | exact HB.out)⟩⟩
            · rw [if_neg c24] at H
              have c24b0 : decide (t195 < t191) = false := decide_eq_false c24
              clear c24
              have H' := Aside0.mk H
              clear H
              go_wp2_with (first | ((with_reducible refine gate_callee (f := 14) rfl ?_); refine goesL_ (some 59) rfl rfl Try.func14 (by kernel_rfl) rfl #[.int .i64 t196] rfl (by (try simp only [List.map_toArray, List.map_cons, List.map_nil]); first | done | rfl | (simp only [List.length_drop, List.length_take]; rfl)) ?_; (with_reducible refine (casketlaw9_num.calls t196 t199 _ A19.out).mono ?_); rintro e w' ⟨rfl, ⟨nd, rfl⟩⟩; refine ⟨_, rfl, ?_⟩) | (go_at_call 14; (with_reducible refine (casketlaw9_num.calls t198 t200 _ A21.out).mono ?_); rintro e w' ⟨rfl, ⟨nd, rfl⟩⟩))
              go_meet
              case rel => exact ⟨_, (decide (t195 < (wrap64 ((a2.size : Int) + 5)))), (by first | rfl | (simp; done) | (simp [*]; done)), H', ⟨by first | omega | exact Nat.le_refl _⟩, ⟨by repeat (first | (with_reducible first | exact HB.out | apply below_alloc | apply pw_below_drewN | apply below_drew1) | exact HB.out)⟩⟩
          · rw [if_neg c23] at H
            have c23b0 : ((t197.size : Int) == t195) = false := beq_eq_false_iff_ne.mpr c23
            have c23b1 : ((t197.size : Int) != t195) = true := bne_iff_ne.mpr c23
            have H' := Aside0.mk H
            clear H
            go_wp2_with (first | ((with_reducible refine gate_callee (f := 14) rfl ?_); refine goesL_ (some 59) rfl rfl Try.func14 (by kernel_rfl) rfl #[.int .i64 t196] rfl (by (try simp only [List.map_toArray, List.map_cons, List.map_nil]); first | done | rfl | (simp only [List.length_drop, List.length_take]; rfl)) ?_; (with_reducible refine (casketlaw9_num.calls t196 t199 _ A19.out).mono ?_); rintro e w' ⟨rfl, ⟨nd, rfl⟩⟩; refine ⟨_, rfl, ?_⟩) | (go_at_call 14; (with_reducible refine (casketlaw9_num.calls t198 t200 _ A21.out).mono ?_); rintro e w' ⟨rfl, ⟨nd, rfl⟩⟩))
            go_meet
            case rel => exact ⟨_, (true), (by first | rfl | (simp; done) | (simp [*]; done)), H', ⟨by first | omega | exact Nat.le_refl _⟩, ⟨by repeat (first | (with_reducible first | exact HB.out | apply below_alloc | apply pw_below_drewN | apply below_drew1) | exact HB.out)⟩⟩
        · rw [if_neg c22] at H
          have c22b0 : (t200 == 0) = false := beq_eq_false_iff_ne.mpr c22
          have c22b1 : (t200 != 0) = true := bne_iff_ne.mpr c22
          have H' := Aside0.mk H
          clear H
          go_wp2_with (first | ((with_reducible refine gate_callee (f := 14) rfl ?_); refine goesL_ (some 59) rfl rfl Try.func14 (by kernel_rfl) rfl #[.int .i64 t196] rfl (by (try simp only [List.map_toArray, List.map_cons, List.map_nil]); first | done | rfl | (simp only [List.length_drop, List.length_take]; rfl)) ?_; (with_reducible refine (casketlaw9_num.calls t196 t199 _ A19.out).mono ?_); rintro e w' ⟨rfl, ⟨nd, rfl⟩⟩; refine ⟨_, rfl, ?_⟩) | (go_at_call 14; (with_reducible refine (casketlaw9_num.calls t198 t200 _ A21.out).mono ?_); rintro e w' ⟨rfl, ⟨nd, rfl⟩⟩))
          go_meet
          case rel => exact ⟨_, (true), (by first | rfl | (simp; done) | (simp [*]; done)), H', ⟨by first | omega | exact Nat.le_refl _⟩, ⟨by repeat (first | (with_reducible first | exact HB.out | apply below_alloc | apply pw_below_drewN | apply below_drew1) | exact HB.out)⟩⟩
      · rw [if_neg c20] at H
        have c20b0 : (t199 == 0) = false := beq_eq_false_iff_ne.mpr c20
        have c20b1 : (t199 != 0) = true := bne_iff_ne.mpr c20
        (first | rw [c20b0] | (simp only [i64_w, i32_w]; rw [c20b0]) | skip)
        have H' := Aside0.mk H
        clear H
        go_wp2_with (first | ((with_reducible refine gate_callee (f := 14) rfl ?_); refine goesL_ (some 59) rfl rfl Try.func14 (by kernel_rfl) rfl #[.int .i64 t196] rfl (by (try simp only [List.map_toArray, List.map_cons, List.map_nil]); first | done | rfl | (simp only [List.length_drop, List.length_take]; rfl)) ?_; (with_reducible refine (casketlaw9_num.calls t196 t199 _ A19.out).mono ?_); rintro e w' ⟨rfl, ⟨nd, rfl⟩⟩; refine ⟨_, rfl, ?_⟩))
        go_meet
        case rel => exact ⟨_, (true), (by first | rfl | (simp; done) | (simp [*]; done)), H', ⟨by first | omega | exact Nat.le_refl _⟩, ⟨by repeat (first | (with_reducible first | exact HB.out | apply below_alloc | apply pw_below_drewN | apply below_drew1) | exact HB.out)⟩⟩
    case rest =>
      clear HC16
      try clear c1
      try clear c2
      try clear p2
      try clear p6
      try clear c8
      try clear c8b0
      try clear c8b1
      try clear c10
      try clear c10b0
      try clear c10b1
      try clear c11
      try clear c14
      try clear c17
      try clear c19
      try clear c20
      try clear c20b0
      try clear c20b1
      try clear c22
      try clear c22b0
      try clear c22b1
      try clear c23
      try clear c23b0
      try clear c23b1
      try clear c24
      try clear c24b0
      obtain ⟨kq, x83_15, rfl, HA, HJ15, HB⟩ := hcut
      cases kq with
      | zero => exact absurd HA.out (by simp [casketlaw9_FrameBack.j0])
      | succ kj15 =>
        have H := HA.out
        clear HA
        simp only [casketlaw9_FrameBack.j0] at H
        by_cases c25 : x83_15 = true
        · subst c25
          have H1 : (some false) = some r := by rw [if_pos rfl] at H; exact H
          clear H
          have H := H1
          clear H1
          obtain rfl := Option.some.inj H
          go_wp2
          go_ret
          exact ⟨by first | rfl | (simp [errW_none, errW_some] <;> rfl) | (simp [*, errW_none, errW_some] <;> rfl), by repeat (first | (with_reducible first | exact HB.out | apply below_alloc | apply pw_below_drewN | apply below_drew1) | exact HB.out)⟩
        · replace c25 := Bool.eq_false_iff.mpr c25
          subst c25
          have H1 : ((frame_Unpack.f t189 t197).bind fun bt201 => ((casketlaw9_num.f bt201.2).bind fun t203 => (if t203 = 0 then (casketlaw9_FrameBack.j1 kj15 t189 t190 t197 (bt201.1.toList != a2.toList)) else (casketlaw9_FrameBack.j1 kj15 t189 t190 t197 true)))) = some r := by rw [if_neg (show ¬ (false = true) by decide)] at H; exact H
          clear H
          have H := H1
          clear H1
          replace H := Option.bind_eq_some_iff.mp H
          obtain ⟨⟨t201, t202⟩, A260, H⟩ := H
          replace H : ((casketlaw9_num.f t202).bind fun t203 => (if t203 = 0 then (casketlaw9_FrameBack.j1 kj15 t189 t190 t197 (t201.toList != a2.toList)) else (casketlaw9_FrameBack.j1 kj15 t189 t190 t197 true))) = some r := H
          have A26 := Aside0.mk A260
          clear A260
          have HC27 := Aside0.mk H
          clear H
          go_upto_region 12 with (first | ((with_reducible refine gate_callee (f := 12) rfl ?_); refine goesL_ (some 87) rfl rfl Try.func12 (by kernel_rfl) rfl #[.int .i64 t189, .string t197] rfl (by (try simp only [List.map_toArray, List.map_cons, List.map_nil]); first | done | rfl | (simp only [List.length_drop, List.length_take]; rfl)) ?_; (with_reducible refine (frame_Unpack.calls t189 t197 t201 t202 _ A26.out).mono ?_); rintro e w28 ⟨rfl, hb⟩; refine ⟨_, rfl, ?_⟩; have n0_ := Aside0.mk (below_step (by repeat (first | (with_reducible first | exact HB.out | apply below_alloc | apply pw_below_drewN | apply below_drew1) | exact HB.out)) hb); clear HB; have HB := n0_; clear n0_; (try clear hb); (try clear hb2); (try clear hk); (try clear hi)))
          (try simp only [Act.put, List.setIfInBounds_toArray, List.set_cons_zero, List.set_cons_succ])
          go_cut [97] (fun v97 wc => ∃ (kq : Nat) (x97_26 : Bool), v97 = .bool x97_26 ∧ Aside0 (casketlaw9_FrameBack.j1 kq t189 t190 t197 x97_26 = some r) ∧ Aside0 (kq ≤ kj15) ∧ Aside0 (Below w.heap.size w wc))
          case first =>
            have H := HC27.out
            clear HC27
            replace H := Option.bind_eq_some_iff.mp H
            obtain ⟨t203, A290, H⟩ := H
            replace H : (if t203 = 0 then (casketlaw9_FrameBack.j1 kj15 t189 t190 t197 (t201.toList != a2.toList)) else (casketlaw9_FrameBack.j1 kj15 t189 t190 t197 true)) = some r := H
            have A29 := Aside0.mk A290
            clear A290
            by_cases c30 : t203 = 0
            · rw [if_pos c30] at H
              have c30b0 : (t203 == 0) = true := beq_iff_eq.mpr c30
              have c30b1 : (t203 != 0) = false := bne_eq_false_iff_eq.mpr c30
              clear c30
              (first | rw [c30b0] | (simp only [i64_w, i32_w]; rw [c30b0]) | skip)
              have H' := Aside0.mk H
              clear H
              go_wp2_with (first | ((with_reducible refine gate_callee (f := 14) rfl ?_); refine goesL_ (some 91) rfl rfl Try.func14 (by kernel_rfl) rfl #[.int .i64 t202] rfl (by (try simp only [List.map_toArray, List.map_cons, List.map_nil]); first | done | rfl | (simp only [List.length_drop, List.length_take]; rfl)) ?_; (with_reducible refine (casketlaw9_num.calls t202 t203 _ A29.out).mono ?_); rintro e w' ⟨rfl, ⟨nd, rfl⟩⟩; refine ⟨_, rfl, ?_⟩))
              go_meet
              case rel => exact ⟨_, ((t201.toList != a2.toList)), (by first | rfl | (simp; done) | (simp [*]; done)), H', ⟨by have := HJ15.out; first | omega | exact Nat.le_refl _⟩, ⟨by repeat (first | (with_reducible first | exact HB.out | apply below_alloc | apply pw_below_drewN | apply below_drew1) | exact HB.out)⟩⟩
            · rw [if_neg c30] at H
              have c30b0 : (t203 == 0) = false := beq_eq_false_iff_ne.mpr c30
              have c30b1 : (t203 != 0) = true := bne_iff_ne.mpr c30
              (first | rw [c30b0] | (simp only [i64_w, i32_w]; rw [c30b0]) | skip)
              have H' := Aside0.mk H
              clear H
              go_wp2_with (first | ((with_reducible refine gate_callee (f := 14) rfl ?_); refine goesL_ (some 91) rfl rfl Try.func14 (by kernel_rfl) rfl #[.int .i64 t202] rfl (by (try simp only [List.map_toArray, List.map_cons, List.map_nil]); first | done | rfl | (simp only [List.length_drop, List.length_take]; rfl)) ?_; (with_reducible refine (casketlaw9_num.calls t202 t203 _ A29.out).mono ?_); rintro e w' ⟨rfl, ⟨nd, rfl⟩⟩; refine ⟨_, rfl, ?_⟩))
              go_meet
              case rel => exact ⟨_, (true), (by first | rfl | (simp; done) | (simp [*]; done)), H', ⟨by have := HJ15.out; first | omega | exact Nat.le_refl _⟩, ⟨by repeat (first | (with_reducible first | exact HB.out | apply below_alloc | apply pw_below_drewN | apply below_drew1) | exact HB.out)⟩⟩
          case rest =>
            clear HC27
            try clear c1
            try clear c2
            try clear p2
            try clear c3
            try clear p6
            try clear c8
            try clear c8b0
            try clear c8b1
            try clear c10
            try clear c10b0
            try clear c10b1
            try clear c11
            try clear c12
            try clear c14
            try clear c17
            try clear c19
            try clear c20
            try clear c20b0
            try clear c20b1
            try clear c22
            try clear c22b0
            try clear c22b1
            try clear c23
            try clear c23b0
            try clear c23b1
            try clear c24
            try clear c24b0
            try clear c25
            try clear c30
            try clear c30b0
            try clear c30b1
            try clear p2
            try clear p6
            obtain ⟨kq, x97_26, rfl, HA, HJ26, HB⟩ := hcut
            cases kq with
            | zero => exact absurd HA.out (by simp [casketlaw9_FrameBack.j1])
            | succ kj26 =>
              have H := HA.out
              clear HA
              simp only [casketlaw9_FrameBack.j1] at H
              by_cases c31 : x97_26 = true
              · subst c31
                have H1 : (some false) = some r := by rw [if_pos rfl] at H; exact H
                clear H
                have H := H1
                clear H1
                obtain rfl := Option.some.inj H
                go_wp2
                go_ret
                exact ⟨by first | rfl | (simp [errW_none, errW_some] <;> rfl) | (simp [*, errW_none, errW_some] <;> rfl), by repeat (first | (with_reducible first | exact HB.out | apply below_alloc | apply pw_below_drewN | apply below_drew1) | exact HB.out)⟩
              · replace c31 := Bool.eq_false_iff.mpr c31
                subst c31
                have H1 : ((frame_Unpack.f t190 t197).bind fun bt204 => (if t190 = t189 then (some true) else (if bt204.1.toList = ([] : List UInt8) then ((casketlaw9_num.f bt204.2).bind fun t206 => (some (t206 == 92))) else (some false)))) = some r := by rw [if_neg (show ¬ (false = true) by decide)] at H; exact H
                clear H
                have H := H1
                clear H1
                replace H := Option.bind_eq_some_iff.mp H
                obtain ⟨⟨t204, t205⟩, A320, H⟩ := H
                replace H : (if t190 = t189 then (some true) else (if t204.toList = ([] : List UInt8) then ((casketlaw9_num.f t205).bind fun t206 => (some (t206 == 92))) else (some false))) = some r := H
                have A32 := Aside0.mk A320
                clear A320
                by_cases c33 : t190 = t189
                · rw [if_pos c33] at H
                  have c33b0 : (t190 == t189) = true := beq_iff_eq.mpr c33
                  have c33b1 : (t190 != t189) = false := bne_eq_false_iff_eq.mpr c33
                  clear c33
                  obtain rfl := Option.some.inj H
                  go_wp2_with (first | ((with_reducible refine gate_callee (f := 12) rfl ?_); refine goesL_ (some 101) rfl rfl Try.func12 (by kernel_rfl) rfl #[.int .i64 t190, .string t197] rfl (by (try simp only [List.map_toArray, List.map_cons, List.map_nil]); first | done | rfl | (simp only [List.length_drop, List.length_take]; rfl)) ?_; (with_reducible refine (frame_Unpack.calls t190 t197 t204 t205 _ A32.out).mono ?_); rintro e w34 ⟨rfl, hb⟩; refine ⟨_, rfl, ?_⟩; have n0_ := Aside0.mk (below_step (by repeat (first | (with_reducible first | exact HB.out | apply below_alloc | apply pw_below_drewN | apply below_drew1) | exact HB.out)) hb); clear HB; have HB := n0_; clear n0_; (try clear hb); (try clear hb2); (try clear hk); (try clear hi)))
                  go_ret
                  exact ⟨by first | rfl | (simp [errW_none, errW_some] <;> rfl) | (simp [*, errW_none, errW_some] <;> rfl), by repeat (first | (with_reducible first | exact HB.out | apply below_alloc | apply pw_below_drewN | apply below_drew1) | exact HB.out)⟩
                · rw [if_neg c33] at H
                  have c33b0 : (t190 == t189) = false := beq_eq_false_iff_ne.mpr c33
                  have c33b1 : (t190 != t189) = true := bne_iff_ne.mpr c33
                  by_cases c35 : t204.toList = ([] : List UInt8)
                  · rw [if_pos c35] at H
                    have c35b0 : (t204.toList == ([] : List UInt8)) = true := beq_iff_eq.mpr c35
                    have c35b1 : (t204.toList != ([] : List UInt8)) = false := bne_eq_false_iff_eq.mpr c35
                    clear c35
                    replace H := Option.bind_eq_some_iff.mp H
                    obtain ⟨t206, A360, H⟩ := H
                    replace H : (some (t206 == 92)) = some r := H
                    have A36 := Aside0.mk A360
                    clear A360
                    obtain rfl := Option.some.inj H
                    go_wp2_with (first | ((with_reducible refine gate_callee (f := 12) rfl ?_); refine goesL_ (some 101) rfl rfl Try.func12 (by kernel_rfl) rfl #[.int .i64 t190, .string t197] rfl (by (try simp only [List.map_toArray, List.map_cons, List.map_nil]); first | done | rfl | (simp only [List.length_drop, List.length_take]; rfl)) ?_; (with_reducible refine (frame_Unpack.calls t190 t197 t204 t205 _ A32.out).mono ?_); rintro e w37 ⟨rfl, hb⟩; refine ⟨_, rfl, ?_⟩; have n0_ := Aside0.mk (below_step (by repeat (first | (with_reducible first | exact HB.out | apply below_alloc | apply pw_below_drewN | apply below_drew1) | exact HB.out)) hb); clear HB; have HB := n0_; clear n0_; (try clear hb); (try clear hb2); (try clear hk); (try clear hi)) | (go_at_call 14; (with_reducible refine (casketlaw9_num.calls t205 t206 _ A36.out).mono ?_); rintro e w' ⟨rfl, ⟨nd, rfl⟩⟩))
                    go_ret
                    exact ⟨by first | rfl | (simp [errW_none, errW_some] <;> rfl) | (simp [*, errW_none, errW_some] <;> rfl), by repeat (first | (with_reducible first | exact HB.out | apply below_alloc | apply pw_below_drewN | apply below_drew1) | exact HB.out)⟩
                  · rw [if_neg c35] at H
                    have c35b0 : (t204.toList == ([] : List UInt8)) = false := beq_eq_false_iff_ne.mpr c35
                    have c35b1 : (t204.toList != ([] : List UInt8)) = true := bne_iff_ne.mpr c35
                    obtain rfl := Option.some.inj H
                    go_wp2_with (first | ((with_reducible refine gate_callee (f := 12) rfl ?_); refine goesL_ (some 101) rfl rfl Try.func12 (by kernel_rfl) rfl #[.int .i64 t190, .string t197] rfl (by (try simp only [List.map_toArray, List.map_cons, List.map_nil]); first | done | rfl | (simp only [List.length_drop, List.length_take]; rfl)) ?_; (with_reducible refine (frame_Unpack.calls t190 t197 t204 t205 _ A32.out).mono ?_); rintro e w38 ⟨rfl, hb⟩; refine ⟨_, rfl, ?_⟩; have n0_ := Aside0.mk (below_step (by repeat (first | (with_reducible first | exact HB.out | apply below_alloc | apply pw_below_drewN | apply below_drew1) | exact HB.out)) hb); clear HB; have HB := n0_; clear n0_; (try clear hb); (try clear hb2); (try clear hk); (try clear hi)))
                    go_ret
                    exact ⟨by first | rfl | (simp [errW_none, errW_some] <;> rfl) | (simp [*, errW_none, errW_some] <;> rfl), by repeat (first | (with_reducible first | exact HB.out | apply below_alloc | apply pw_below_drewN | apply below_drew1) | exact HB.out)⟩

/-- THE ONE PURE STATEMENT of casketlaw9_FrameBack: yours. -/
def casketlaw9_FrameBack.Pure : Prop := ∀ (a0 : Int) (a1 : Int) (a2 : ByteArray) (a3 : Int), (Lit.int .i64 a0).wf = true → (Lit.int .i64 a1).wf = true → a2.size ≤ 140737488351232 → (Lit.int .i64 a3).wf = true → ∃ k, casketlaw9_FrameBack.f k a0 a1 a2 a3 = some true
theorem casketlaw9_FrameBack.walk (P : casketlaw9_FrameBack.Pure) (a0 : Int) (a1 : Int) (a2 : ByteArray) (a3 : Int) (w : World) (w0 : (Lit.int .i64 a0).wf = true) (w1 : (Lit.int .i64 a1).wf = true) (w2 : a2.size ≤ 140737488351232) (w3 : (Lit.int .i64 a3).wf = true) :
    Calls Try.prog 11 #[.int .i64 a0, .int .i64 a1, .string a2, .int .i64 a3] w fun e w' => e = .returned (.bool true) ∧ Below w.heap.size w w' := by
  obtain ⟨k, h⟩ := P a0 a1 a2 a3 w0 w1 w2 w3
  refine (casketlaw9_FrameBack.calls k a0 a1 a2 a3 true w h).mono ?_
  rintro e w' ⟨rfl, hd⟩
  exact ⟨rfl, hd⟩


end Go.Proofs.Ytaiieopllffljaa.PAll
