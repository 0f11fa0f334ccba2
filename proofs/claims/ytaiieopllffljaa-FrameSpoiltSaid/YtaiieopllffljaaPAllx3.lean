-- Printed by wip/gprint.py of this session (the kit's print with given functions). Not trusted: Lean checks it.
import Derived.Test.YtaiieopllffljaaPAllx0
import Derived.Test.YtaiieopllffljaaPAllx1
import Derived.Test.YtaiieopllffljaaPAllx2
namespace Go.Proofs.Ytaiieopllffljaa.PAll
open Go.RowKit Go.Proofs.YtaiieopllffljaaW.PrintWords Go.Proofs.YtaiieopllffljaaW.PrintLast Go.Proofs.YtaiieopllffljaaW.PrintMore Go.Proofs.Ytaiieopllffljaa.G
attribute [local go_sem] max2_int min2_int max_two min_two max_three min_three max_four min_four   -- for this text's walks alone
set_option linter.unusedVariables false
set_option linter.unusedSimpArgs false

/-! ### casketlaw9_FrameLittle: function 6 -/
mutual
def casketlaw9_FrameLittle.j0 : Nat → Int → Int → Int → Int → Bool → Option (Bool)
  | 0, _, _, _, _, _ => none
  | k + 1, x0, x5, x7, x9, x45 => if x45 = true then (some false) else ((casketref9_Exponent.f k x0).bind fun t140 => ((casketref9_Digits.f k t140).bind fun t141 => (if x5 < x0 then (casketlaw9_FrameLittle.j1 k x5 t140 t141 true) else (if x7 = x5 then (if x9 < x5 then (casketlaw9_FrameLittle.j1 k x5 t140 t141 true) else (casketlaw9_FrameLittle.j1 k x5 t140 t141 (decide ((wrap64 ((wrap64 (x5 - x0)) * (wrap64 (t140 + 1)))) ≥ x0)))) else (casketlaw9_FrameLittle.j1 k x5 t140 t141 true)))))
def casketlaw9_FrameLittle.j1 : Nat → Int → Int → Int → Bool → Option (Bool)
  | 0, _, _, _, _ => none
  | k + 1, x5, x11, x12, x72 => if x72 = true then (some false) else ((casketref9_Power.f k (wrap64 (x11 - x12))).bind fun t142 => (if t142 = 0 then (none) else (if (Int.tmod x5 t142) = 0 then ((casketref9_Power.f k x12).bind fun t143 => (if t143 ≤ (wrap64 (2 * x11)) then ((casketref9_Power.f k (wrap64 (x11 + 1))).bind fun t144 => (some (decide (x5 ≤ t144)))) else (some false))) else (some false))))
end
def casketlaw9_FrameLittle.f (k : Nat) (a0 : Int) (a1 : Int) : Option (Bool) := (casketlaw9_clipped.f a0 2 1048576).bind fun t129 => ((casketlaw9_clipped.f a1 t129 1048576).bind fun t130 => ((frame_Padme.f t129).bind fun bt131 => ((frame_Padme.f bt131.1).bind fun bt133 => ((frame_Padme.f t130).bind fun bt135 => ((casketlaw9_num.f bt131.2).bind fun t137 => (if t137 = 0 then ((casketlaw9_num.f bt133.2).bind fun t138 => (if t138 = 0 then ((casketlaw9_num.f bt135.2).bind fun t139 => (casketlaw9_FrameLittle.j0 k t129 bt131.1 bt133.1 bt135.1 (t139 != 0))) else (casketlaw9_FrameLittle.j0 k t129 bt131.1 bt133.1 bt135.1 true))) else (casketlaw9_FrameLittle.j0 k t129 bt131.1 bt133.1 bt135.1 true)))))))
theorem casketlaw9_FrameLittle.mono_l : ∀ k, (∀ y0 y1 y2 y3 y4, LeO (casketlaw9_FrameLittle.j0 k y0 y1 y2 y3 y4) (casketlaw9_FrameLittle.j0 (k + 1) y0 y1 y2 y3 y4)) ∧ (∀ y0 y1 y2 y3, LeO (casketlaw9_FrameLittle.j1 k y0 y1 y2 y3) (casketlaw9_FrameLittle.j1 (k + 1) y0 y1 y2 y3))
  | 0 => ⟨fun _ _ _ _ _ r h => by simp [casketlaw9_FrameLittle.j0] at h, fun _ _ _ _ r h => by simp [casketlaw9_FrameLittle.j1] at h⟩
  | k + 1 => by
    obtain ⟨ih0, ih1⟩ := casketlaw9_FrameLittle.mono_l k
    refine ⟨?_, ?_⟩
    · intro y0 y1 y2 y3 y4
      unfold casketlaw9_FrameLittle.j0
      repeat' first
      | (with_reducible exact ih0 _ _ _ _ _)
      | (with_reducible exact ih1 _ _ _ _)
      | (with_reducible exact casketref9_Digits.mono _ _)
      | (with_reducible exact casketref9_Exponent.mono _ _)
      | (with_reducible exact casketref9_Power.mono _ _)
      | (with_reducible exact LeO.refl _)
      | (with_reducible exact LeO.none _)
      | (with_reducible refine LeO.ite ?_ ?_)
      | (with_reducible refine LeO.bind ?_ (fun _ => ?_))
      | exact ih0 _ _ _ _ _
      | exact ih1 _ _ _ _
      | exact casketref9_Digits.mono _ _
      | exact casketref9_Exponent.mono _ _
      | exact casketref9_Power.mono _ _
      | exact LeO.none _
      | refine LeO.ite ?_ ?_
      | refine LeO.bind ?_ (fun _ => ?_)
    · intro y0 y1 y2 y3
      unfold casketlaw9_FrameLittle.j1
      repeat' first
      | (with_reducible exact ih0 _ _ _ _ _)
      | (with_reducible exact ih1 _ _ _ _)
      | (with_reducible exact casketref9_Digits.mono _ _)
      | (with_reducible exact casketref9_Exponent.mono _ _)
      | (with_reducible exact casketref9_Power.mono _ _)
      | (with_reducible exact LeO.refl _)
      | (with_reducible exact LeO.none _)
      | (with_reducible refine LeO.ite ?_ ?_)
      | (with_reducible refine LeO.bind ?_ (fun _ => ?_))
      | exact ih0 _ _ _ _ _
      | exact ih1 _ _ _ _
      | exact casketref9_Digits.mono _ _
      | exact casketref9_Exponent.mono _ _
      | exact casketref9_Power.mono _ _
      | exact LeO.none _
      | refine LeO.ite ?_ ?_
      | refine LeO.bind ?_ (fun _ => ?_)
theorem casketlaw9_FrameLittle.mono : ∀ a0 a1 k, LeO (casketlaw9_FrameLittle.f k a0 a1) (casketlaw9_FrameLittle.f (k + 1) a0 a1) := by
  intro a0 a1 k
  obtain ⟨ih0, ih1⟩ := casketlaw9_FrameLittle.mono_l k
  unfold casketlaw9_FrameLittle.f
  repeat' first
      | (with_reducible exact ih0 _ _ _ _ _)
      | (with_reducible exact ih1 _ _ _ _)
      | (with_reducible exact casketref9_Digits.mono _ _)
      | (with_reducible exact casketref9_Exponent.mono _ _)
      | (with_reducible exact casketref9_Power.mono _ _)
      | (with_reducible exact LeO.refl _)
      | (with_reducible exact LeO.none _)
      | (with_reducible refine LeO.ite ?_ ?_)
      | (with_reducible refine LeO.bind ?_ (fun _ => ?_))
      | exact ih0 _ _ _ _ _
      | exact ih1 _ _ _ _
      | exact casketref9_Digits.mono _ _
      | exact casketref9_Exponent.mono _ _
      | exact casketref9_Power.mono _ _
      | exact LeO.none _
      | refine LeO.ite ?_ ?_
      | refine LeO.bind ?_ (fun _ => ?_)
set_option maxHeartbeats 8000000 in
set_option maxRecDepth 100000 in
theorem casketlaw9_FrameLittle.calls (k : Nat) (a0 : Int) (a1 : Int) (r : Bool) (w : World) (h : casketlaw9_FrameLittle.f k a0 a1 = some r) :
    Calls Try.prog 6 #[.int .i64 a0, .int .i64 a1] w fun e w' => e = .returned (.bool r) ∧ Drawn0 w w' := by
  have H : ((casketlaw9_clipped.f a0 2 1048576).bind fun t129 => ((casketlaw9_clipped.f a1 t129 1048576).bind fun t130 => ((frame_Padme.f t129).bind fun bt131 => ((frame_Padme.f bt131.1).bind fun bt133 => ((frame_Padme.f t130).bind fun bt135 => ((casketlaw9_num.f bt131.2).bind fun t137 => (if t137 = 0 then ((casketlaw9_num.f bt133.2).bind fun t138 => (if t138 = 0 then ((casketlaw9_num.f bt135.2).bind fun t139 => (casketlaw9_FrameLittle.j0 k t129 bt131.1 bt133.1 bt135.1 (t139 != 0))) else (casketlaw9_FrameLittle.j0 k t129 bt131.1 bt133.1 bt135.1 true))) else (casketlaw9_FrameLittle.j0 k t129 bt131.1 bt133.1 bt135.1 true)))))))) = some r := h
  clear h
  replace H := Option.bind_eq_some_iff.mp H
  obtain ⟨t129, A30, H⟩ := H
  replace H : ((casketlaw9_clipped.f a1 t129 1048576).bind fun t130 => ((frame_Padme.f t129).bind fun bt131 => ((frame_Padme.f bt131.1).bind fun bt133 => ((frame_Padme.f t130).bind fun bt135 => ((casketlaw9_num.f bt131.2).bind fun t137 => (if t137 = 0 then ((casketlaw9_num.f bt133.2).bind fun t138 => (if t138 = 0 then ((casketlaw9_num.f bt135.2).bind fun t139 => (casketlaw9_FrameLittle.j0 k t129 bt131.1 bt133.1 bt135.1 (t139 != 0))) else (casketlaw9_FrameLittle.j0 k t129 bt131.1 bt133.1 bt135.1 true))) else (casketlaw9_FrameLittle.j0 k t129 bt131.1 bt133.1 bt135.1 true))))))) = some r := H
  have A3 := Aside0.mk A30
  clear A30
  replace H := Option.bind_eq_some_iff.mp H
  obtain ⟨t130, A40, H⟩ := H
  replace H : ((frame_Padme.f t129).bind fun bt131 => ((frame_Padme.f bt131.1).bind fun bt133 => ((frame_Padme.f t130).bind fun bt135 => ((casketlaw9_num.f bt131.2).bind fun t137 => (if t137 = 0 then ((casketlaw9_num.f bt133.2).bind fun t138 => (if t138 = 0 then ((casketlaw9_num.f bt135.2).bind fun t139 => (casketlaw9_FrameLittle.j0 k t129 bt131.1 bt133.1 bt135.1 (t139 != 0))) else (casketlaw9_FrameLittle.j0 k t129 bt131.1 bt133.1 bt135.1 true))) else (casketlaw9_FrameLittle.j0 k t129 bt131.1 bt133.1 bt135.1 true)))))) = some r := H
  have A4 := Aside0.mk A40
  clear A40
  replace H := Option.bind_eq_some_iff.mp H
  obtain ⟨⟨t131, t132⟩, A50, H⟩ := H
  replace H : ((frame_Padme.f t131).bind fun bt133 => ((frame_Padme.f t130).bind fun bt135 => ((casketlaw9_num.f t132).bind fun t137 => (if t137 = 0 then ((casketlaw9_num.f bt133.2).bind fun t138 => (if t138 = 0 then ((casketlaw9_num.f bt135.2).bind fun t139 => (casketlaw9_FrameLittle.j0 k t129 t131 bt133.1 bt135.1 (t139 != 0))) else (casketlaw9_FrameLittle.j0 k t129 t131 bt133.1 bt135.1 true))) else (casketlaw9_FrameLittle.j0 k t129 t131 bt133.1 bt135.1 true))))) = some r := H
  have A5 := Aside0.mk A50
  clear A50
  replace H := Option.bind_eq_some_iff.mp H
  obtain ⟨⟨t133, t134⟩, A60, H⟩ := H
  replace H : ((frame_Padme.f t130).bind fun bt135 => ((casketlaw9_num.f t132).bind fun t137 => (if t137 = 0 then ((casketlaw9_num.f t134).bind fun t138 => (if t138 = 0 then ((casketlaw9_num.f bt135.2).bind fun t139 => (casketlaw9_FrameLittle.j0 k t129 t131 t133 bt135.1 (t139 != 0))) else (casketlaw9_FrameLittle.j0 k t129 t131 t133 bt135.1 true))) else (casketlaw9_FrameLittle.j0 k t129 t131 t133 bt135.1 true)))) = some r := H
  have A6 := Aside0.mk A60
  clear A60
  replace H := Option.bind_eq_some_iff.mp H
  obtain ⟨⟨t135, t136⟩, A70, H⟩ := H
  replace H : ((casketlaw9_num.f t132).bind fun t137 => (if t137 = 0 then ((casketlaw9_num.f t134).bind fun t138 => (if t138 = 0 then ((casketlaw9_num.f t136).bind fun t139 => (casketlaw9_FrameLittle.j0 k t129 t131 t133 t135 (t139 != 0))) else (casketlaw9_FrameLittle.j0 k t129 t131 t133 t135 true))) else (casketlaw9_FrameLittle.j0 k t129 t131 t133 t135 true))) = some r := H
  have A7 := Aside0.mk A70
  clear A70
  have HC8 := Aside0.mk H
  clear H
  go_enter Try.func6, Try.ntmps6
  go_upto_region 6 with (first | ((with_reducible refine gate_callee (f := 19) rfl ?_); refine goesL_ (some 14) rfl rfl Try.func19 (by kernel_rfl) rfl #[.int .i64 a0, .int .i64 2, .int .i64 1048576] rfl (by (try simp only [List.map_toArray, List.map_cons, List.map_nil]); first | done | rfl | (simp only [List.length_drop, List.length_take]; rfl)) ?_; (with_reducible refine (casketlaw9_clipped.calls a0 2 1048576 t129 _ A3.out).mono ?_); rintro e w' ⟨rfl, ⟨nd, rfl⟩⟩; refine ⟨_, rfl, ?_⟩) | ((with_reducible refine gate_callee (f := 19) rfl ?_); refine goesL_ (some 17) rfl rfl Try.func19 (by kernel_rfl) rfl #[.int .i64 a1, .int .i64 t129, .int .i64 1048576] rfl (by (try simp only [List.map_toArray, List.map_cons, List.map_nil]); first | done | rfl | (simp only [List.length_drop, List.length_take]; rfl)) ?_; (with_reducible refine (casketlaw9_clipped.calls a1 t129 1048576 t130 _ A4.out).mono ?_); rintro e w' ⟨rfl, ⟨nd, rfl⟩⟩; refine ⟨_, rfl, ?_⟩) | ((with_reducible refine gate_callee (f := 15) rfl ?_); refine goesL_ (some 20) rfl rfl Try.func15 (by kernel_rfl) rfl #[.int .i64 t129] rfl (by (try simp only [List.map_toArray, List.map_cons, List.map_nil]); first | done | rfl | (simp only [List.length_drop, List.length_take]; rfl)) ?_; (with_reducible refine (frame_Padme.calls t129 t131 t132 _ A5.out).mono ?_); rintro e w' ⟨rfl, ⟨nd, rfl⟩⟩; refine ⟨_, rfl, ?_⟩) | ((with_reducible refine gate_callee (f := 15) rfl ?_); refine goesL_ (some 25) rfl rfl Try.func15 (by kernel_rfl) rfl #[.int .i64 t131] rfl (by (try simp only [List.map_toArray, List.map_cons, List.map_nil]); first | done | rfl | (simp only [List.length_drop, List.length_take]; rfl)) ?_; (with_reducible refine (frame_Padme.calls t131 t133 t134 _ A6.out).mono ?_); rintro e w' ⟨rfl, ⟨nd, rfl⟩⟩; refine ⟨_, rfl, ?_⟩) | ((with_reducible refine gate_callee (f := 15) rfl ?_); refine goesL_ (some 30) rfl rfl Try.func15 (by kernel_rfl) rfl #[.int .i64 t130] rfl (by (try simp only [List.map_toArray, List.map_cons, List.map_nil]); first | done | rfl | (simp only [List.length_drop, List.length_take]; rfl)) ?_; (with_reducible refine (frame_Padme.calls t130 t135 t136 _ A7.out).mono ?_); rintro e w' ⟨rfl, ⟨nd, rfl⟩⟩; refine ⟨_, rfl, ?_⟩))
  (try simp only [Act.put, List.setIfInBounds_toArray, List.set_cons_zero, List.set_cons_succ])
  go_cut [45] (fun v45 wc => ∃ (kq : Nat) (x45_7 : Bool), v45 = .bool x45_7 ∧ Aside0 (casketlaw9_FrameLittle.j0 kq t129 t131 t133 t135 x45_7 = some r) ∧ Aside0 (kq ≤ k) ∧ Drawn0 w wc)
  case first =>
    have H := HC8.out
    clear HC8
    replace H := Option.bind_eq_some_iff.mp H
    obtain ⟨t137, A90, H⟩ := H
    replace H : (if t137 = 0 then ((casketlaw9_num.f t134).bind fun t138 => (if t138 = 0 then ((casketlaw9_num.f t136).bind fun t139 => (casketlaw9_FrameLittle.j0 k t129 t131 t133 t135 (t139 != 0))) else (casketlaw9_FrameLittle.j0 k t129 t131 t133 t135 true))) else (casketlaw9_FrameLittle.j0 k t129 t131 t133 t135 true)) = some r := H
    have A9 := Aside0.mk A90
    clear A90
    by_cases c10 : t137 = 0
    · rw [if_pos c10] at H
      have c10b0 : (t137 == 0) = true := beq_iff_eq.mpr c10
      have c10b1 : (t137 != 0) = false := bne_eq_false_iff_eq.mpr c10
      clear c10
      (first | rw [c10b0] | (simp only [i64_w, i32_w]; rw [c10b0]) | skip)
      replace H := Option.bind_eq_some_iff.mp H
      obtain ⟨t138, A110, H⟩ := H
      replace H : (if t138 = 0 then ((casketlaw9_num.f t136).bind fun t139 => (casketlaw9_FrameLittle.j0 k t129 t131 t133 t135 (t139 != 0))) else (casketlaw9_FrameLittle.j0 k t129 t131 t133 t135 true)) = some r := H
      have A11 := Aside0.mk A110
      clear A110
      by_cases c12 : t138 = 0
      · rw [if_pos c12] at H
        have c12b0 : (t138 == 0) = true := beq_iff_eq.mpr c12
        have c12b1 : (t138 != 0) = false := bne_eq_false_iff_eq.mpr c12
        clear c12
        replace H := Option.bind_eq_some_iff.mp H
        obtain ⟨t139, A130, H⟩ := H
        replace H : (casketlaw9_FrameLittle.j0 k t129 t131 t133 t135 (t139 != 0)) = some r := H
        have A13 := Aside0.mk A130
        clear A130
        have H' := Aside0.mk H
        clear H
        go_wp2_with (first | ((with_reducible refine gate_callee (f := 14) rfl ?_); refine goesL_ (some 34) rfl rfl Try.func14 (by kernel_rfl) rfl #[.int .i64 t132] rfl (by (try simp only [List.map_toArray, List.map_cons, List.map_nil]); first | done | rfl | (simp only [List.length_drop, List.length_take]; rfl)) ?_; (with_reducible refine (casketlaw9_num.calls t132 t137 _ A9.out).mono ?_); rintro e w' ⟨rfl, ⟨nd, rfl⟩⟩; refine ⟨_, rfl, ?_⟩) | (go_at_call 14; (with_reducible refine (casketlaw9_num.calls t134 t138 _ A11.out).mono ?_); rintro e w' ⟨rfl, ⟨nd, rfl⟩⟩) | (go_at_call 14; (with_reducible refine (casketlaw9_num.calls t136 t139 _ A13.out).mono ?_); rintro e w' ⟨rfl, ⟨nd, rfl⟩⟩))
        go_meet
        case rel => exact ⟨_, ((t139 != 0)), (by first | rfl | (simp; done) | (simp [*]; done)), H', ⟨by first | omega | exact Nat.le_refl _⟩, by repeat (first | exact Drawn0.refl _ | apply Drawn0.step)⟩
      · rw [if_neg c12] at H
        have c12b0 : (t138 == 0) = false := beq_eq_false_iff_ne.mpr c12
        have c12b1 : (t138 != 0) = true := bne_iff_ne.mpr c12
        have H' := Aside0.mk H
        clear H
        go_wp2_with (first | ((with_reducible refine gate_callee (f := 14) rfl ?_); refine goesL_ (some 34) rfl rfl Try.func14 (by kernel_rfl) rfl #[.int .i64 t132] rfl (by (try simp only [List.map_toArray, List.map_cons, List.map_nil]); first | done | rfl | (simp only [List.length_drop, List.length_take]; rfl)) ?_; (with_reducible refine (casketlaw9_num.calls t132 t137 _ A9.out).mono ?_); rintro e w' ⟨rfl, ⟨nd, rfl⟩⟩; refine ⟨_, rfl, ?_⟩) | (go_at_call 14; (with_reducible refine (casketlaw9_num.calls t134 t138 _ A11.out).mono ?_); rintro e w' ⟨rfl, ⟨nd, rfl⟩⟩))
        go_meet
        case rel => exact ⟨_, (true), (by first | rfl | (simp; done) | (simp [*]; done)), H', ⟨by first | omega | exact Nat.le_refl _⟩, by repeat (first | exact Drawn0.refl _ | apply Drawn0.step)⟩
    · rw [if_neg c10] at H
      have c10b0 : (t137 == 0) = false := beq_eq_false_iff_ne.mpr c10
      have c10b1 : (t137 != 0) = true := bne_iff_ne.mpr c10
      (first | rw [c10b0] | (simp only [i64_w, i32_w]; rw [c10b0]) | skip)
      have H' := Aside0.mk H
      clear H
      go_wp2_with (first | ((with_reducible refine gate_callee (f := 14) rfl ?_); refine goesL_ (some 34) rfl rfl Try.func14 (by kernel_rfl) rfl #[.int .i64 t132] rfl (by (try simp only [List.map_toArray, List.map_cons, List.map_nil]); first | done | rfl | (simp only [List.length_drop, List.length_take]; rfl)) ?_; (with_reducible refine (casketlaw9_num.calls t132 t137 _ A9.out).mono ?_); rintro e w' ⟨rfl, ⟨nd, rfl⟩⟩; refine ⟨_, rfl, ?_⟩))
      go_meet
      case rel => exact ⟨_, (true), (by first | rfl | (simp; done) | (simp [*]; done)), H', ⟨by first | omega | exact Nat.le_refl _⟩, by repeat (first | exact Drawn0.refl _ | apply Drawn0.step)⟩
  case rest =>
    clear HC8
    try clear c1
    try clear p2
    try clear c6
    try clear c10
    try clear c10b0
    try clear c10b1
    try clear c12
    try clear c12b0
    try clear c12b1
    obtain ⟨kq, x45_7, rfl, HA, HJ7, ⟨mc7, rfl⟩⟩ := hcut
    cases kq with
    | zero => exact absurd HA.out (by simp [casketlaw9_FrameLittle.j0])
    | succ kj7 =>
      have H := HA.out
      clear HA
      simp only [casketlaw9_FrameLittle.j0] at H
      by_cases c14 : x45_7 = true
      · subst c14
        have H1 : (some false) = some r := by rw [if_pos rfl] at H; exact H
        clear H
        have H := H1
        clear H1
        obtain rfl := Option.some.inj H
        go_wp2
        go_ret
        exact ⟨by first | rfl | (simp; done) | (simp [*]; done), by repeat (first | exact Drawn0.refl _ | apply Drawn0.step)⟩
      · replace c14 := Bool.eq_false_iff.mpr c14
        subst c14
        have H1 : ((casketref9_Exponent.f kj7 t129).bind fun t140 => ((casketref9_Digits.f kj7 t140).bind fun t141 => (if t131 < t129 then (casketlaw9_FrameLittle.j1 kj7 t131 t140 t141 true) else (if t133 = t131 then (if t135 < t131 then (casketlaw9_FrameLittle.j1 kj7 t131 t140 t141 true) else (casketlaw9_FrameLittle.j1 kj7 t131 t140 t141 (decide ((wrap64 ((wrap64 (t131 - t129)) * (wrap64 (t140 + 1)))) ≥ t129)))) else (casketlaw9_FrameLittle.j1 kj7 t131 t140 t141 true))))) = some r := by rw [if_neg (show ¬ (false = true) by decide)] at H; exact H
        clear H
        have H := H1
        clear H1
        replace H := Option.bind_eq_some_iff.mp H
        obtain ⟨t140, A150, H⟩ := H
        replace H : ((casketref9_Digits.f kj7 t140).bind fun t141 => (if t131 < t129 then (casketlaw9_FrameLittle.j1 kj7 t131 t140 t141 true) else (if t133 = t131 then (if t135 < t131 then (casketlaw9_FrameLittle.j1 kj7 t131 t140 t141 true) else (casketlaw9_FrameLittle.j1 kj7 t131 t140 t141 (decide ((wrap64 ((wrap64 (t131 - t129)) * (wrap64 (t140 + 1)))) ≥ t129)))) else (casketlaw9_FrameLittle.j1 kj7 t131 t140 t141 true)))) = some r := H
        have A15 := Aside0.mk A150
        clear A150
        replace H := Option.bind_eq_some_iff.mp H
        obtain ⟨t141, A160, H⟩ := H
        replace H : (if t131 < t129 then (casketlaw9_FrameLittle.j1 kj7 t131 t140 t141 true) else (if t133 = t131 then (if t135 < t131 then (casketlaw9_FrameLittle.j1 kj7 t131 t140 t141 true) else (casketlaw9_FrameLittle.j1 kj7 t131 t140 t141 (decide ((wrap64 ((wrap64 (t131 - t129)) * (wrap64 (t140 + 1)))) ≥ t129)))) else (casketlaw9_FrameLittle.j1 kj7 t131 t140 t141 true))) = some r := H
        have A16 := Aside0.mk A160
        clear A160
        have HC17 := Aside0.mk H
        clear H
        go_upto_region 10 with (first | ((with_reducible refine gate_callee (f := 20) rfl ?_); refine goesL_ (some 47) rfl rfl Try.func20 (by kernel_rfl) rfl #[.int .i64 t129] rfl (by (try simp only [List.map_toArray, List.map_cons, List.map_nil]); first | done | rfl | (simp only [List.length_drop, List.length_take]; rfl)) ?_; (with_reducible refine (casketref9_Exponent.calls kj7 t129 t140 _ A15.out).mono ?_); rintro e w' ⟨rfl, ⟨nd, rfl⟩⟩; refine ⟨_, rfl, ?_⟩) | ((with_reducible refine gate_callee (f := 21) rfl ?_); refine goesL_ (some 49) rfl rfl Try.func21 (by kernel_rfl) rfl #[.int .i64 t140] rfl (by (try simp only [List.map_toArray, List.map_cons, List.map_nil]); first | done | rfl | (simp only [List.length_drop, List.length_take]; rfl)) ?_; (with_reducible refine (casketref9_Digits.calls kj7 t140 t141 _ A16.out).mono ?_); rintro e w' ⟨rfl, ⟨nd, rfl⟩⟩; refine ⟨_, rfl, ?_⟩))
        (try simp only [Act.put, List.setIfInBounds_toArray, List.set_cons_zero, List.set_cons_succ])
        go_cut [72] (fun v72 wc => ∃ (kq : Nat) (x72_16 : Bool), v72 = .bool x72_16 ∧ Aside0 (casketlaw9_FrameLittle.j1 kq t131 t140 t141 x72_16 = some r) ∧ Aside0 (kq ≤ kj7) ∧ Drawn0 w wc)
        case first =>
          have H := HC17.out
          clear HC17
          by_cases c18 : t131 < t129
          · rw [if_pos c18] at H
            have c18b0 : decide (t131 < t129) = true := decide_eq_true c18
            clear c18
            (first | rw [c18b0] | (simp only [i64_w, i32_w]; rw [c18b0]) | skip)
            have H' := Aside0.mk H
            clear H
            go_wp2
            go_meet
            case rel => exact ⟨_, (true), (by first | rfl | (simp; done) | (simp [*]; done)), H', ⟨by have := HJ7.out; first | omega | exact Nat.le_refl _⟩, by repeat (first | exact Drawn0.refl _ | apply Drawn0.step)⟩
          · rw [if_neg c18] at H
            have c18b0 : decide (t131 < t129) = false := decide_eq_false c18
            clear c18
            (first | rw [c18b0] | (simp only [i64_w, i32_w]; rw [c18b0]) | skip)
            by_cases c19 : t133 = t131
            · rw [if_pos c19] at H
              have c19b0 : (t133 == t131) = true := beq_iff_eq.mpr c19
              have c19b1 : (t133 != t131) = false := bne_eq_false_iff_eq.mpr c19
              clear c19
              by_cases c20 : t135 < t131
              · rw [if_pos c20] at H
                have c20b0 : decide (t135 < t131) = true := decide_eq_true c20
                clear c20
                have H' := Aside0.mk H
                clear H
                go_wp2
                go_meet
                case rel => exact ⟨_, (true), (by first | rfl | (simp; done) | (simp [*]; done)), H', ⟨by have := HJ7.out; first | omega | exact Nat.le_refl _⟩, by repeat (first | exact Drawn0.refl _ | apply Drawn0.step)⟩
              · rw [if_neg c20] at H
                have c20b0 : decide (t135 < t131) = false := decide_eq_false c20
                clear c20
                have H' := Aside0.mk H
                clear H
                go_wp2
                go_meet
                case rel => exact ⟨_, (decide ((wrap64 ((wrap64 (t131 - t129)) * (wrap64 (t140 + 1)))) ≥ t129)), (by first | rfl | (simp; done) | (simp [*]; done)), H', ⟨by have := HJ7.out; first | omega | exact Nat.le_refl _⟩, by repeat (first | exact Drawn0.refl _ | apply Drawn0.step)⟩
            · rw [if_neg c19] at H
              have c19b0 : (t133 == t131) = false := beq_eq_false_iff_ne.mpr c19
              have c19b1 : (t133 != t131) = true := bne_iff_ne.mpr c19
              have H' := Aside0.mk H
              clear H
              go_wp2
              go_meet
              case rel => exact ⟨_, (true), (by first | rfl | (simp; done) | (simp [*]; done)), H', ⟨by have := HJ7.out; first | omega | exact Nat.le_refl _⟩, by repeat (first | exact Drawn0.refl _ | apply Drawn0.step)⟩
        case rest =>
          clear HC17
          try clear c1
          try clear c2
          try clear p2
          try clear c6
          try clear p6
          try clear c7
          try clear c10
          try clear c10b0
          try clear c10b1
          try clear c12
          try clear c12b0
          try clear c12b1
          try clear c14
          try clear c15
          try clear c18
          try clear c18b0
          try clear c19
          try clear c19b0
          try clear c19b1
          try clear c20
          try clear c20b0
          try clear p2
          obtain ⟨kq, x72_16, rfl, HA, HJ16, ⟨mc16, rfl⟩⟩ := hcut
          cases kq with
          | zero => exact absurd HA.out (by simp [casketlaw9_FrameLittle.j1])
          | succ kj16 =>
            have H := HA.out
            clear HA
            simp only [casketlaw9_FrameLittle.j1] at H
            by_cases c21 : x72_16 = true
            · subst c21
              have H1 : (some false) = some r := by rw [if_pos rfl] at H; exact H
              clear H
              have H := H1
              clear H1
              obtain rfl := Option.some.inj H
              go_wp2
              go_ret
              exact ⟨by first | rfl | (simp; done) | (simp [*]; done), by repeat (first | exact Drawn0.refl _ | apply Drawn0.step)⟩
            · replace c21 := Bool.eq_false_iff.mpr c21
              subst c21
              have H1 : ((casketref9_Power.f kj16 (wrap64 (t140 - t141))).bind fun t142 => (if t142 = 0 then (none) else (if (Int.tmod t131 t142) = 0 then ((casketref9_Power.f kj16 t141).bind fun t143 => (if t143 ≤ (wrap64 (2 * t140)) then ((casketref9_Power.f kj16 (wrap64 (t140 + 1))).bind fun t144 => (some (decide (t131 ≤ t144)))) else (some false))) else (some false)))) = some r := by rw [if_neg (show ¬ (false = true) by decide)] at H; exact H
              clear H
              have H := H1
              clear H1
              replace H := Option.bind_eq_some_iff.mp H
              obtain ⟨t142, A220, H⟩ := H
              replace H : (if t142 = 0 then (none) else (if (Int.tmod t131 t142) = 0 then ((casketref9_Power.f kj16 t141).bind fun t143 => (if t143 ≤ (wrap64 (2 * t140)) then ((casketref9_Power.f kj16 (wrap64 (t140 + 1))).bind fun t144 => (some (decide (t131 ≤ t144)))) else (some false))) else (some false))) = some r := H
              have A22 := Aside0.mk A220
              clear A220
              by_cases c23 : t142 = 0
              · rw [if_pos c23] at H
                exact absurd H (by simp)
              · rw [if_neg c23] at H
                have c23b0 : (t142 == 0) = false := beq_eq_false_iff_ne.mpr c23
                have c23b1 : (t142 != 0) = true := bne_iff_ne.mpr c23
                by_cases c24 : (Int.tmod t131 t142) = 0
                · rw [if_pos c24] at H
                  have c24b0 : ((Int.tmod t131 t142) == 0) = true := beq_iff_eq.mpr c24
                  have c24b1 : ((Int.tmod t131 t142) != 0) = false := bne_eq_false_iff_eq.mpr c24
                  clear c24
                  replace H := Option.bind_eq_some_iff.mp H
                  obtain ⟨t143, A250, H⟩ := H
                  replace H : (if t143 ≤ (wrap64 (2 * t140)) then ((casketref9_Power.f kj16 (wrap64 (t140 + 1))).bind fun t144 => (some (decide (t131 ≤ t144)))) else (some false)) = some r := H
                  have A25 := Aside0.mk A250
                  clear A250
                  by_cases c26 : t143 ≤ (wrap64 (2 * t140))
                  · rw [if_pos c26] at H
                    have c26b0 : decide (t143 ≤ (wrap64 (2 * t140))) = true := decide_eq_true c26
                    clear c26
                    replace H := Option.bind_eq_some_iff.mp H
                    obtain ⟨t144, A270, H⟩ := H
                    replace H : (some (decide (t131 ≤ t144))) = some r := H
                    have A27 := Aside0.mk A270
                    clear A270
                    obtain rfl := Option.some.inj H
                    go_wp2_with (first | ((with_reducible refine gate_callee (f := 22) rfl ?_); refine goesL_ (some 77) rfl rfl Try.func22 (by kernel_rfl) rfl #[.int .i64 (wrap64 (t140 - t141))] rfl (by (try simp only [List.map_toArray, List.map_cons, List.map_nil]); first | done | rfl | (simp only [List.length_drop, List.length_take]; rfl)) ?_; (with_reducible refine (casketref9_Power.calls kj16 (wrap64 (t140 - t141)) t142 _ A22.out).mono ?_); rintro e w' ⟨rfl, ⟨nd, rfl⟩⟩; refine ⟨_, rfl, ?_⟩) | (go_at_call 22; (with_reducible refine (casketref9_Power.calls kj16 t141 t143 _ A25.out).mono ?_); rintro e w' ⟨rfl, ⟨nd, rfl⟩⟩) | (go_at_call 22; (with_reducible refine (casketref9_Power.calls kj16 (wrap64 (t140 + 1)) t144 _ A27.out).mono ?_); rintro e w' ⟨rfl, ⟨nd, rfl⟩⟩))
                    go_ret
                    exact ⟨by first | rfl | (simp; done) | (simp [*]; done), by repeat (first | exact Drawn0.refl _ | apply Drawn0.step)⟩
                  · rw [if_neg c26] at H
                    have c26b0 : decide (t143 ≤ (wrap64 (2 * t140))) = false := decide_eq_false c26
                    clear c26
                    obtain rfl := Option.some.inj H
                    go_wp2_with (first | ((with_reducible refine gate_callee (f := 22) rfl ?_); refine goesL_ (some 77) rfl rfl Try.func22 (by kernel_rfl) rfl #[.int .i64 (wrap64 (t140 - t141))] rfl (by (try simp only [List.map_toArray, List.map_cons, List.map_nil]); first | done | rfl | (simp only [List.length_drop, List.length_take]; rfl)) ?_; (with_reducible refine (casketref9_Power.calls kj16 (wrap64 (t140 - t141)) t142 _ A22.out).mono ?_); rintro e w' ⟨rfl, ⟨nd, rfl⟩⟩; refine ⟨_, rfl, ?_⟩) | (go_at_call 22; (with_reducible refine (casketref9_Power.calls kj16 t141 t143 _ A25.out).mono ?_); rintro e w' ⟨rfl, ⟨nd, rfl⟩⟩))
                    go_ret
                    exact ⟨by first | rfl | (simp; done) | (simp [*]; done), by repeat (first | exact Drawn0.refl _ | apply Drawn0.step)⟩
                · rw [if_neg c24] at H
                  have c24b0 : ((Int.tmod t131 t142) == 0) = false := beq_eq_false_iff_ne.mpr c24
                  have c24b1 : ((Int.tmod t131 t142) != 0) = true := bne_iff_ne.mpr c24
                  obtain rfl := Option.some.inj H
                  go_wp2_with (first | ((with_reducible refine gate_callee (f := 22) rfl ?_); refine goesL_ (some 77) rfl rfl Try.func22 (by kernel_rfl) rfl #[.int .i64 (wrap64 (t140 - t141))] rfl (by (try simp only [List.map_toArray, List.map_cons, List.map_nil]); first | done | rfl | (simp only [List.length_drop, List.length_take]; rfl)) ?_; (with_reducible refine (casketref9_Power.calls kj16 (wrap64 (t140 - t141)) t142 _ A22.out).mono ?_); rintro e w' ⟨rfl, ⟨nd, rfl⟩⟩; refine ⟨_, rfl, ?_⟩))
                  go_ret
                  exact ⟨by first | rfl | (simp; done) | (simp [*]; done), by repeat (first | exact Drawn0.refl _ | apply Drawn0.step)⟩

/-- THE ONE PURE STATEMENT of casketlaw9_FrameLittle: yours. -/
def casketlaw9_FrameLittle.Pure : Prop := ∀ (a0 : Int) (a1 : Int), (Lit.int .i64 a0).wf = true → (Lit.int .i64 a1).wf = true → ∃ k, casketlaw9_FrameLittle.f k a0 a1 = some true
theorem casketlaw9_FrameLittle.walk (P : casketlaw9_FrameLittle.Pure) (a0 : Int) (a1 : Int) (w : World) (w0 : (Lit.int .i64 a0).wf = true) (w1 : (Lit.int .i64 a1).wf = true) :
    Calls Try.prog 6 #[.int .i64 a0, .int .i64 a1] w fun e w' => e = .returned (.bool true) ∧ Below w.heap.size w w' := by
  obtain ⟨k, h⟩ := P a0 a1 w0 w1
  refine (casketlaw9_FrameLittle.calls k a0 a1 true w h).mono ?_
  rintro e w' ⟨rfl, hd⟩
  exact ⟨rfl, hd.below⟩


/-! ### casketref9_Pack: function 24 -/
mutual
def casketref9_Pack.j0 : Nat → Int → ByteArray → Int → Bool → Option (ByteArray × Int)
  | 0, _, _, _, _ => none
  | k + 1, x0, x1, x2, x16 => if x16 = true then (some ((⟨#[]⟩ : ByteArray), 92)) else (if x2 > 1048576 then (some ((⟨#[]⟩ : ByteArray), 3)) else (if x2 < 5 then (casketref9_Pack.j1 k x0 x1 x2 true) else (casketref9_Pack.j1 k x0 x1 x2 (decide ((x1.size : Int) > (wrap64 (x2 - 5)))))))
def casketref9_Pack.j1 : Nat → Int → ByteArray → Int → Bool → Option (ByteArray × Int)
  | 0, _, _, _, _ => none
  | k + 1, x0, x1, x2, x27 => if x27 = true then (some ((⟨#[]⟩ : ByteArray), 90)) else (casketref9_Pack.l0 k x1 x2 (x1.size : Int) (([(x0) % 256, (wrap64 ((x1.size : Int) / 16777216)) % 256, (Int.tmod (wrap64 ((x1.size : Int) / 65536)) 256) % 256, (Int.tmod (wrap64 ((x1.size : Int) / 256)) 256) % 256, (x1.size : Int) % 256] : List Int)) 0)
def casketref9_Pack.l0 : Nat → ByteArray → Int → Int → List Int → Int → Option (ByteArray × Int)
  | 0, _, _, _, _, _ => none
  | k + 1, x1, x2, x8, x9, x10 => if x10 < x8 then (if 0 ≤ x10 then (if x10 < (x1.size : Int) then (if x9.length < 140737488355328 then (casketref9_Pack.l0 k x1 x2 x8 (x9 ++ [bt x1 x10]) (wrap64 (x10 + 1))) else (none)) else (none)) else (none)) else (casketref9_Pack.l1 k x2 x9)
def casketref9_Pack.l1 : Nat → Int → List Int → Option (ByteArray × Int)
  | 0, _, _ => none
  | k + 1, x2, x9 => if (x9.length : Int) < x2 then (if x9.length < 140737488355328 then (casketref9_Pack.l1 k x2 (x9 ++ [0])) else (none)) else (some (strOfNums x9, 0))
end
def casketref9_Pack.f (k : Nat) (a0 : Int) (a1 : ByteArray) (a2 : Int) : Option (ByteArray × Int) := if a0 < 1 then (casketref9_Pack.j0 k a0 a1 a2 true) else (casketref9_Pack.j0 k a0 a1 a2 (decide (a0 > 255)))
theorem casketref9_Pack.mono_l : ∀ k, (∀ y0 y1 y2 y3, LeO (casketref9_Pack.j0 k y0 y1 y2 y3) (casketref9_Pack.j0 (k + 1) y0 y1 y2 y3)) ∧ (∀ y0 y1 y2 y3, LeO (casketref9_Pack.j1 k y0 y1 y2 y3) (casketref9_Pack.j1 (k + 1) y0 y1 y2 y3)) ∧ (∀ y0 y1 y2 y3 y4, LeO (casketref9_Pack.l0 k y0 y1 y2 y3 y4) (casketref9_Pack.l0 (k + 1) y0 y1 y2 y3 y4)) ∧ (∀ y0 y1, LeO (casketref9_Pack.l1 k y0 y1) (casketref9_Pack.l1 (k + 1) y0 y1))
  | 0 => ⟨fun _ _ _ _ r h => by simp [casketref9_Pack.j0] at h, fun _ _ _ _ r h => by simp [casketref9_Pack.j1] at h, fun _ _ _ _ _ r h => by simp [casketref9_Pack.l0] at h, fun _ _ r h => by simp [casketref9_Pack.l1] at h⟩
  | k + 1 => by
    obtain ⟨ih0, ih1, ih2, ih3⟩ := casketref9_Pack.mono_l k
    refine ⟨?_, ?_, ?_, ?_⟩
    · intro y0 y1 y2 y3
      unfold casketref9_Pack.j0
      repeat' first
      | (with_reducible exact ih0 _ _ _ _)
      | (with_reducible exact ih1 _ _ _ _)
      | (with_reducible exact ih2 _ _ _ _ _)
      | (with_reducible exact ih3 _ _)
      | (with_reducible exact LeO.refl _)
      | (with_reducible exact LeO.none _)
      | (with_reducible refine LeO.ite ?_ ?_)
      | (with_reducible refine LeO.bind ?_ (fun _ => ?_))
      | exact ih0 _ _ _ _
      | exact ih1 _ _ _ _
      | exact ih2 _ _ _ _ _
      | exact ih3 _ _
      | exact LeO.none _
      | refine LeO.ite ?_ ?_
      | refine LeO.bind ?_ (fun _ => ?_)
    · intro y0 y1 y2 y3
      unfold casketref9_Pack.j1
      repeat' first
      | (with_reducible exact ih0 _ _ _ _)
      | (with_reducible exact ih1 _ _ _ _)
      | (with_reducible exact ih2 _ _ _ _ _)
      | (with_reducible exact ih3 _ _)
      | (with_reducible exact LeO.refl _)
      | (with_reducible exact LeO.none _)
      | (with_reducible refine LeO.ite ?_ ?_)
      | (with_reducible refine LeO.bind ?_ (fun _ => ?_))
      | exact ih0 _ _ _ _
      | exact ih1 _ _ _ _
      | exact ih2 _ _ _ _ _
      | exact ih3 _ _
      | exact LeO.none _
      | refine LeO.ite ?_ ?_
      | refine LeO.bind ?_ (fun _ => ?_)
    · intro y0 y1 y2 y3 y4
      unfold casketref9_Pack.l0
      repeat' first
      | (with_reducible exact ih0 _ _ _ _)
      | (with_reducible exact ih1 _ _ _ _)
      | (with_reducible exact ih2 _ _ _ _ _)
      | (with_reducible exact ih3 _ _)
      | (with_reducible exact LeO.refl _)
      | (with_reducible exact LeO.none _)
      | (with_reducible refine LeO.ite ?_ ?_)
      | (with_reducible refine LeO.bind ?_ (fun _ => ?_))
      | exact ih0 _ _ _ _
      | exact ih1 _ _ _ _
      | exact ih2 _ _ _ _ _
      | exact ih3 _ _
      | exact LeO.none _
      | refine LeO.ite ?_ ?_
      | refine LeO.bind ?_ (fun _ => ?_)
    · intro y0 y1
      unfold casketref9_Pack.l1
      repeat' first
      | (with_reducible exact ih0 _ _ _ _)
      | (with_reducible exact ih1 _ _ _ _)
      | (with_reducible exact ih2 _ _ _ _ _)
      | (with_reducible exact ih3 _ _)
      | (with_reducible exact LeO.refl _)
      | (with_reducible exact LeO.none _)
      | (with_reducible refine LeO.ite ?_ ?_)
      | (with_reducible refine LeO.bind ?_ (fun _ => ?_))
      | exact ih0 _ _ _ _
      | exact ih1 _ _ _ _
      | exact ih2 _ _ _ _ _
      | exact ih3 _ _
      | exact LeO.none _
      | refine LeO.ite ?_ ?_
      | refine LeO.bind ?_ (fun _ => ?_)
theorem casketref9_Pack.mono : ∀ a0 a1 a2 k, LeO (casketref9_Pack.f k a0 a1 a2) (casketref9_Pack.f (k + 1) a0 a1 a2) := by
  intro a0 a1 a2 k
  obtain ⟨ih0, ih1, ih2, ih3⟩ := casketref9_Pack.mono_l k
  unfold casketref9_Pack.f
  repeat' first
      | (with_reducible exact ih0 _ _ _ _)
      | (with_reducible exact ih1 _ _ _ _)
      | (with_reducible exact ih2 _ _ _ _ _)
      | (with_reducible exact ih3 _ _)
      | (with_reducible exact LeO.refl _)
      | (with_reducible exact LeO.none _)
      | (with_reducible refine LeO.ite ?_ ?_)
      | (with_reducible refine LeO.bind ?_ (fun _ => ?_))
      | exact ih0 _ _ _ _
      | exact ih1 _ _ _ _
      | exact ih2 _ _ _ _ _
      | exact ih3 _ _
      | exact LeO.none _
      | refine LeO.ite ?_ ?_
      | refine LeO.bind ?_ (fun _ => ?_)
set_option maxHeartbeats 8000000 in
set_option maxRecDepth 100000 in
theorem casketref9_Pack.calls (k : Nat) (a0 : Int) (a1 : ByteArray) (a2 : Int) (r1 : ByteArray) (r2 : Int) (w : World) (h : casketref9_Pack.f k a0 a1 a2 = some (r1, r2)) :
    Calls Try.prog 24 #[.int .i64 a0, .string a1, .int .i64 a2] w fun e w' => e = .returned (.tuple #[.string r1, .int .i64 r2]) ∧ Below w.heap.size w w' := by
  have HB := Aside0.mk (Below.refl w.heap.size w)
  have H : (if a0 < 1 then (casketref9_Pack.j0 k a0 a1 a2 true) else (casketref9_Pack.j0 k a0 a1 a2 (decide (a0 > 255)))) = some (r1, r2) := h
  clear h
  have HC4 := Aside0.mk H
  clear H
  go_enter Try.func24, Try.ntmps24
  go_upto_region 1 with (fail)
  go_cut [16] (fun v16 wc => ∃ (kq : Nat) (x16_3 : Bool), v16 = .bool x16_3 ∧ Aside0 (casketref9_Pack.j0 kq a0 a1 a2 x16_3 = some (r1, r2)) ∧ Aside0 (kq ≤ k) ∧ Aside0 (Below w.heap.size w wc))
  case first =>
    have H := HC4.out
    clear HC4
    by_cases c5 : a0 < 1
    · rw [if_pos c5] at H
      have c5b0 : decide (a0 < 1) = true := decide_eq_true c5
      clear c5
      (first | rw [c5b0] | (simp only [i64_w, i32_w]; rw [c5b0]) | skip)
      have H' := Aside0.mk H
      clear H
      go_wp2
      go_meet
      case rel => exact ⟨_, (true), (by first | rfl | (simp; done) | (simp [*]; done)), H', ⟨by first | omega | exact Nat.le_refl _⟩, ⟨by repeat (first | (with_reducible first | exact HB.out | apply below_alloc | apply pw_below_drewN | apply below_drew1) | exact HB.out)⟩⟩
    · rw [if_neg c5] at H
      have c5b0 : decide (a0 < 1) = false := decide_eq_false c5
      clear c5
      (first | rw [c5b0] | (simp only [i64_w, i32_w]; rw [c5b0]) | skip)
      have H' := Aside0.mk H
      clear H
      go_wp2
      go_meet
      case rel => exact ⟨_, (decide (a0 > 255)), (by first | rfl | (simp; done) | (simp [*]; done)), H', ⟨by first | omega | exact Nat.le_refl _⟩, ⟨by repeat (first | (with_reducible first | exact HB.out | apply below_alloc | apply pw_below_drewN | apply below_drew1) | exact HB.out)⟩⟩
  case rest =>
    clear HC4
    try clear c2
    try clear p2
    try clear c5
    try clear c5b0
    obtain ⟨kq, x16_3, rfl, HA, HJ3, HB⟩ := hcut
    cases kq with
    | zero => exact absurd HA.out (by simp [casketref9_Pack.j0])
    | succ kj3 =>
      have H := HA.out
      clear HA
      simp only [casketref9_Pack.j0] at H
      by_cases c6 : x16_3 = true
      · subst c6
        have H1 : (some ((⟨#[]⟩ : ByteArray), 92)) = some (r1, r2) := by rw [if_pos rfl] at H; exact H
        clear H
        have H := H1
        clear H1
        simp only [Option.some.injEq, Prod.mk.injEq] at H
        obtain ⟨rfl, rfl⟩ := H
        go_wp2
        go_ret2
        exact ⟨by first | rfl | (simp [errW_none, errW_some] <;> rfl) | (simp [*, errW_none, errW_some] <;> rfl), by repeat (first | (with_reducible first | exact HB.out | apply below_alloc | apply pw_below_drewN | apply below_drew1) | exact HB.out)⟩
      · replace c6 := Bool.eq_false_iff.mpr c6
        subst c6
        have H1 : (if a2 > 1048576 then (some ((⟨#[]⟩ : ByteArray), 3)) else (if a2 < 5 then (casketref9_Pack.j1 kj3 a0 a1 a2 true) else (casketref9_Pack.j1 kj3 a0 a1 a2 (decide ((a1.size : Int) > (wrap64 (a2 - 5))))))) = some (r1, r2) := by rw [if_neg (show ¬ (false = true) by decide)] at H; exact H
        clear H
        have H := H1
        clear H1
        by_cases c7 : a2 > 1048576
        · rw [if_pos c7] at H
          have c7b0 : decide (1048576 < a2) = true := decide_eq_true c7
          clear c7
          simp only [Option.some.injEq, Prod.mk.injEq] at H
          obtain ⟨rfl, rfl⟩ := H
          go_wp2
          go_ret2
          exact ⟨by first | rfl | (simp [errW_none, errW_some] <;> rfl) | (simp [*, errW_none, errW_some] <;> rfl), by repeat (first | (with_reducible first | exact HB.out | apply below_alloc | apply pw_below_drewN | apply below_drew1) | exact HB.out)⟩
        · rw [if_neg c7] at H
          have c7b0 : decide (1048576 < a2) = false := decide_eq_false c7
          clear c7
          have HC8 := Aside0.mk H
          clear H
          go_upto_region 5 with (fail)
          go_cut [27] (fun v27 wc => ∃ (kq : Nat) (x27_7 : Bool), v27 = .bool x27_7 ∧ Aside0 (casketref9_Pack.j1 kq a0 a1 a2 x27_7 = some (r1, r2)) ∧ Aside0 (kq ≤ kj3) ∧ Aside0 (Below w.heap.size w wc))
          case first =>
            have H := HC8.out
            clear HC8
            by_cases c9 : a2 < 5
            · rw [if_pos c9] at H
              have c9b0 : decide (a2 < 5) = true := decide_eq_true c9
              clear c9
              (first | rw [c9b0] | (simp only [i64_w, i32_w]; rw [c9b0]) | skip)
              have H' := Aside0.mk H
              clear H
              go_wp2
              go_meet
              case rel => exact ⟨_, (true), (by first | rfl | (simp; done) | (simp [*]; done)), H', ⟨by have := HJ3.out; first | omega | exact Nat.le_refl _⟩, ⟨by repeat (first | (with_reducible first | exact HB.out | apply below_alloc | apply pw_below_drewN | apply below_drew1) | exact HB.out)⟩⟩
            · rw [if_neg c9] at H
              have c9b0 : decide (a2 < 5) = false := decide_eq_false c9
              clear c9
              (first | rw [c9b0] | (simp only [i64_w, i32_w]; rw [c9b0]) | skip)
              have H' := Aside0.mk H
              clear H
              go_wp2
              go_meet
              case rel => exact ⟨_, (decide ((a1.size : Int) > (wrap64 (a2 - 5)))), (by first | rfl | (simp; done) | (simp [*]; done)), H', ⟨by have := HJ3.out; first | omega | exact Nat.le_refl _⟩, ⟨by repeat (first | (with_reducible first | exact HB.out | apply below_alloc | apply pw_below_drewN | apply below_drew1) | exact HB.out)⟩⟩
          case rest =>
            clear HC8
            try clear c2
            try clear p2
            try clear c5
            try clear c5b0
            try clear c6
            try clear p6
            try clear c7
            try clear c7b0
            try clear c9
            try clear c9b0
            try clear p2
            obtain ⟨kq, x27_7, rfl, HA, HJ7, HB⟩ := hcut
            cases kq with
            | zero => exact absurd HA.out (by simp [casketref9_Pack.j1])
            | succ kj7 =>
              have H := HA.out
              clear HA
              simp only [casketref9_Pack.j1] at H
              by_cases c10 : x27_7 = true
              · subst c10
                have H1 : (some ((⟨#[]⟩ : ByteArray), 90)) = some (r1, r2) := by rw [if_pos rfl] at H; exact H
                clear H
                have H := H1
                clear H1
                simp only [Option.some.injEq, Prod.mk.injEq] at H
                obtain ⟨rfl, rfl⟩ := H
                go_wp2
                go_ret2
                exact ⟨by first | rfl | (simp [errW_none, errW_some] <;> rfl) | (simp [*, errW_none, errW_some] <;> rfl), by repeat (first | (with_reducible first | exact HB.out | apply below_alloc | apply pw_below_drewN | apply below_drew1) | exact HB.out)⟩
              · replace c10 := Bool.eq_false_iff.mpr c10
                subst c10
                have H1 : (casketref9_Pack.l0 kj7 a1 a2 (a1.size : Int) (([(a0) % 256, (wrap64 ((a1.size : Int) / 16777216)) % 256, (Int.tmod (wrap64 ((a1.size : Int) / 65536)) 256) % 256, (Int.tmod (wrap64 ((a1.size : Int) / 256)) 256) % 256, (a1.size : Int) % 256] : List Int)) 0) = some (r1, r2) := by rw [if_neg (show ¬ (false = true) by decide)] at H; exact H
                clear H
                have H := H1
                clear H1
                obtain ⟨y145, hy145⟩ : ∃ y_ : List Int, y_ = (([(a0) % 256, (wrap64 ((a1.size : Int) / 16777216)) % 256, (Int.tmod (wrap64 ((a1.size : Int) / 65536)) 256) % 256, (Int.tmod (wrap64 ((a1.size : Int) / 256)) 256) % 256, (a1.size : Int) % 256] : List Int)) := ⟨_, rfl⟩
                replace H : (casketref9_Pack.l0 kj7 a1 a2 (a1.size : Int) y145 0) = some (r1, r2) := by first | (rw [hy145]; with_reducible exact H) | (have H2_ := (Option.bind_some _ _).symm.trans H; rw [hy145]; with_reducible exact H2_) | (have H2_ := (Option.bind_some _ _).symm.trans H; with_reducible exact H2_) | with_reducible exact H | (rw [hy145]; exact H) | exact H
                have Ny145 := Aside0.mk hy145
                clear hy145
                have H' := Aside0.mk H
                clear H
                go_wp2_with (first | ((with_reducible refine gate_dst (N := 46) rfl ?_); (try (refine gate_guard (by rfl) ?_; dsimp only)); refine Kd.R_lit (Kd.int .u8) _ 5 ?hg (N := 46) ?hd (xs := ([(a0) % 256, (wrap64 ((a1.size : Int) / 16777216)) % 256, (Int.tmod (wrap64 ((a1.size : Int) / 65536)) 256) % 256, (Int.tmod (wrap64 ((a1.size : Int) / 256)) 256) % 256, (a1.size : Int) % 256] : List Int)) (inner := [.int .u8 ((a0) % 256), .int .u8 ((wrap64 ((a1.size : Int) / 16777216)) % 256), .int .u8 ((Int.tmod (wrap64 ((a1.size : Int) / 65536)) 256) % 256), .int .u8 ((Int.tmod (wrap64 ((a1.size : Int) / 256)) 256) % 256), .int .u8 ((a1.size : Int) % 256)]) (ok := fun _ => True) (okp := fun _ => True) ?hr ?hp (fun _ hk => hk) trivial (Below.refl _ _) (Nat.le_refl _) (by simp) ?_; (case hd => rfl); (case hg => rfl); (case hr => first | (go_simp; done) | (go_simp; rfl)); (case hp => exact (Reps.one (show Kd.M (Kd.int .u8) _ _ _ ((a0) % 256) [.int .u8 ((a0) % 256)] from rfl) (Reps.one (show Kd.M (Kd.int .u8) _ _ _ ((wrap64 ((a1.size : Int) / 16777216)) % 256) [.int .u8 ((wrap64 ((a1.size : Int) / 16777216)) % 256)] from rfl) (Reps.one (show Kd.M (Kd.int .u8) _ _ _ ((Int.tmod (wrap64 ((a1.size : Int) / 65536)) 256) % 256) [.int .u8 ((Int.tmod (wrap64 ((a1.size : Int) / 65536)) 256) % 256)] from rfl) (Reps.one (show Kd.M (Kd.int .u8) _ _ _ ((Int.tmod (wrap64 ((a1.size : Int) / 256)) 256) % 256) [.int .u8 ((Int.tmod (wrap64 ((a1.size : Int) / 256)) 256) % 256)] from rfl) (Reps.one (show Kd.M (Kd.int .u8) _ _ _ ((a1.size : Int) % 256) [.int .u8 ((a1.size : Int) % 256)] from rfl) (Reps.none _ _))))))); intro v146 w11 ho12 hb hg_ hnew_; clear hg_ hnew_; (first | rw [← Ny145.out] at ho12 | (simp only [Int.reduceToNat] at ho12; rw [← Ny145.out] at ho12)); have n0_ := Aside0.mk (Kd.R_lower ho12 (below_size (by repeat (first | (with_reducible first | exact HB.out | apply below_alloc | apply pw_below_drewN | apply below_drew1) | exact HB.out)))); have n1_ := Aside0.mk (below_step (by repeat (first | (with_reducible first | exact HB.out | apply below_alloc | apply pw_below_drewN | apply below_drew1) | exact HB.out)) hb); clear HB; have HO147 := n0_; have HB := n1_; clear n0_ n1_; clear hb ho12))
                go_loopg [9, 10] kj7 (fun kq v9 v10 w' => ∃ (x9_3 : List Int) (x10_3 : Int), v10 = .int .i64 x10_3 ∧ Aside0 (casketref9_Pack.l0 kq a1 a2 (a1.size : Int) x9_3 x10_3 = some (r1, r2)) ∧ Aside0 (kq ≤ kj7) ∧ Aside0 (Kd.R (Kd.int .u8) 5 w' w.heap.size (fun _ => True) v9 x9_3) ∧ Aside0 (Below w.heap.size w w'))
                case atStart => exact ⟨(y145), (0), (by first | rfl | (simp; done) | (simp [*]; done)), H', ⟨Nat.le_refl _⟩, ⟨by (with_reducible repeat (first | apply Kd.R_alloc | apply Kd.R_drewN | apply Kd.R_drew)); exact HO147.out⟩, ⟨by repeat (first | (with_reducible first | exact HB.out | apply below_alloc | apply pw_below_drewN | apply below_drew1) | exact HB.out)⟩⟩
                case round =>
                  clear H'
                  try clear c1
                  try clear c2
                  try clear p2
                  try clear c5
                  try clear c5b0
                  try clear c6
                  try clear p6
                  try clear c7
                  try clear c7b0
                  try clear c9
                  try clear c9b0
                  try clear c10
                  try clear p2
                  try clear p6
                  obtain ⟨x9_3, x10_3, rfl, HA, HK3, HO_9, HB⟩ := hrel
                  cases gk with
                  | zero => exact absurd HA.out (by simp [casketref9_Pack.l0])
                  | succ k3 =>
                    have H := HA.out
                    clear HA
                    simp only [casketref9_Pack.l0] at H
                    by_cases c13 : x10_3 < (a1.size : Int)
                    · rw [if_pos c13] at H
                      have c13b0 : decide (x10_3 < (a1.size : Int)) = true := decide_eq_true c13
                      clear c13
                      by_cases c14 : 0 ≤ x10_3
                      · rw [if_pos c14] at H
                        have c14b0 : decide (0 ≤ x10_3) = true := decide_eq_true c14
                        clear c14
                        by_cases c15 : x10_3 < (a1.size : Int)
                        · rw [if_pos c15] at H
                          have c15b0 : decide (x10_3 < (a1.size : Int)) = true := decide_eq_true c15
                          clear c15
                          by_cases c17 : x9_3.length < 140737488355328
                          · rw [if_pos c17] at H
                            have LMc17 := Aside0.mk c17
                            clear c17
                            obtain ⟨y148, hy148⟩ : ∃ y_ : List Int, y_ = (x9_3 ++ [bt a1 x10_3]) := ⟨_, rfl⟩
                            replace H : (casketref9_Pack.l0 k3 a1 a2 (a1.size : Int) y148 (wrap64 (x10_3 + 1))) = some (r1, r2) := by first | (rw [hy148]; with_reducible exact H) | (have H2_ := (Option.bind_some _ _).symm.trans H; rw [hy148]; with_reducible exact H2_) | (have H2_ := (Option.bind_some _ _).symm.trans H; with_reducible exact H2_) | with_reducible exact H | (rw [hy148]; exact H) | exact H
                            have Ny148 := Aside0.mk hy148
                            clear hy148
                            have H' := Aside0.mk H
                            clear H
                            have p16 : 0 ≤ (x10_3 : Int) := of_decide_eq_true (by first | (with_reducible assumption) | assumption)
                            have q16 : x10_3 < (a1.size : Int) := of_decide_eq_true (by first | (with_reducible assumption) | assumption)
                            have hx16 := bt_at a1 x10_3
                            replace p16 := eq_true p16
                            replace q16 := eq_true q16
                            go_wp2_with (first | ((with_reducible refine gate_builtin (b := .append) (xs := #[.tmp 52, .tmp 56]) rfl ?_); (try (refine gate_guard (by rfl) ?_; dsimp only)); at_builtin; refine Kd.R_append (Kd.int .u8) (w0 := w) w.heap.size rfl (.tmp 52) (.tmp 56) 42 5 (.int .u8 0) 1 rfl Try.underlying42 info5 rfl (by decide) (by omega) u9 x9_3 (bt a1 x10_3) [.int .u8 (bt a1 x10_3)] (fun _ => True) (fun _ => False) rfl rfl ?aP (fun _ hk => hk.elim) ?aF ?aO ?aB ?aS ?aL ?_; (case aP => exact rfl); (case aB => exact (by repeat (first | (with_reducible first | exact HB.out | apply below_alloc | apply pw_below_drewN | apply below_drew1) | exact HB.out))); (case aF => exact (fun _ _ => trivial)); (case aO => exact (by (with_reducible repeat (first | apply Kd.R_alloc | apply Kd.R_drewN | apply Kd.R_drew)); exact HO_9.out)); (case aS => exact (below_size (by repeat (first | (with_reducible first | exact HB.out | apply below_alloc | apply pw_below_drewN | apply below_drew1) | exact HB.out)))); (case aL => have := LMc17.out; omega); intro v149 w18 ho hb hg hat; rw [← Ny148.out] at ho; have n0_ := Aside0.mk (hb); have n1_ := Aside0.mk (ho); clear HB; clear HO_9; have HB := n0_; have HO150 := n1_; clear n0_ n1_; clear ho hb hg hat))
                            go_roundg k3
                            case measure => have := HJ3.out; have := HJ7.out; have := HK3.out; omega
                            case rel => exact ⟨(y148), (wrap64 (x10_3 + 1)), (by first | rfl | (simp; done) | (simp [*]; done)), H', ⟨by have := HJ3.out; have := HJ7.out; have := HK3.out; omega⟩, ⟨by (with_reducible repeat (first | apply Kd.R_alloc | apply Kd.R_drewN | apply Kd.R_drew)); exact HO150.out⟩, ⟨by repeat (first | (with_reducible first | exact HB.out | apply below_alloc | apply pw_below_drewN | apply below_drew1) | exact HB.out)⟩⟩
                          · rw [if_neg c17] at H
                            exact absurd H (by simp)
                        · rw [if_neg c15] at H
                          exact absurd H (by simp)
                      · rw [if_neg c14] at H
                        exact absurd H (by simp)
                    · rw [if_neg c13] at H
                      have c13b0 : decide (x10_3 < (a1.size : Int)) = false := decide_eq_false c13
                      clear c13
                      have H' := Aside0.mk H
                      clear H
                      go_wp2
                      go_loopg [9] k3 (fun kq v9 w' => ∃ (x9_4 : List Int), Aside0 (casketref9_Pack.l1 kq a2 x9_4 = some (r1, r2)) ∧ Aside0 (kq ≤ k3) ∧ Aside0 (Kd.R (Kd.int .u8) 5 w' w.heap.size (fun _ => True) v9 x9_4) ∧ Aside0 (Below w.heap.size w w'))
                      case atStart => exact ⟨(x9_3), H', ⟨Nat.le_refl _⟩, ⟨by (with_reducible repeat (first | apply Kd.R_alloc | apply Kd.R_drewN | apply Kd.R_drew)); exact HO_9.out⟩, ⟨by repeat (first | (with_reducible first | exact HB.out | apply below_alloc | apply pw_below_drewN | apply below_drew1) | exact HB.out)⟩⟩
                      case round =>
                        clear H'
                        try clear c1
                        try clear p1
                        try clear q1
                        try clear hx1
                        try clear c2
                        try clear p2
                        try clear c5
                        try clear c5b0
                        try clear c6
                        try clear p6
                        try clear c7
                        try clear c7b0
                        try clear c9
                        try clear c9b0
                        try clear c10
                        try clear c13
                        try clear c13b0
                        try clear c14
                        try clear c14b0
                        try clear c15
                        try clear c15b0
                        try clear p16
                        try clear q16
                        try clear hx16
                        try clear c17
                        try clear p16
                        try clear p2
                        try clear p6
                        try clear q16
                        obtain ⟨x9_4, HA, HK4, HO_9, HB⟩ := hrel
                        cases gk with
                        | zero => exact absurd HA.out (by simp [casketref9_Pack.l1])
                        | succ k4 =>
                          have H := HA.out
                          clear HA
                          simp only [casketref9_Pack.l1] at H
                          by_cases c19 : (x9_4.length : Int) < a2
                          · rw [if_pos c19] at H
                            have c19b0 : decide ((x9_4.length : Int) < a2) = true := decide_eq_true c19
                            clear c19
                            by_cases c20 : x9_4.length < 140737488355328
                            · rw [if_pos c20] at H
                              have LMc20 := Aside0.mk c20
                              clear c20
                              obtain ⟨y151, hy151⟩ : ∃ y_ : List Int, y_ = (x9_4 ++ [0]) := ⟨_, rfl⟩
                              replace H : (casketref9_Pack.l1 k4 a2 y151) = some (r1, r2) := by first | (rw [hy151]; with_reducible exact H) | (have H2_ := (Option.bind_some _ _).symm.trans H; rw [hy151]; with_reducible exact H2_) | (have H2_ := (Option.bind_some _ _).symm.trans H; with_reducible exact H2_) | with_reducible exact H | (rw [hy151]; exact H) | exact H
                              have Ny151 := Aside0.mk hy151
                              clear hy151
                              have H' := Aside0.mk H
                              clear H
                              obtain ⟨Ao21, co21, eo21⟩ := Kd.R_slice HO_9.out
                              subst eo21
                              go_wp2_with (first | ((with_reducible refine gate_builtin (b := .append) (xs := #[.tmp 62, .tmp 63]) rfl ?_); (try (refine gate_guard (by rfl) ?_; dsimp only)); at_builtin; refine Kd.R_append (Kd.int .u8) (w0 := w) w.heap.size rfl (.tmp 62) (.tmp 63) 42 5 (.int .u8 0) 1 rfl Try.underlying42 info5 rfl (by decide) (by omega) (.slice Ao21 x9_4.length co21) x9_4 0 [.int .u8 0] (fun _ => True) (fun _ => False) rfl rfl ?aP (fun _ hk => hk.elim) ?aF ?aO ?aB ?aS ?aL ?_; (case aP => exact rfl); (case aB => exact (by repeat (first | (with_reducible first | exact HB.out | apply below_alloc | apply pw_below_drewN | apply below_drew1) | exact HB.out))); (case aF => exact (fun _ _ => trivial)); (case aO => exact (by (with_reducible repeat (first | apply Kd.R_alloc | apply Kd.R_drewN | apply Kd.R_drew)); exact HO_9.out)); (case aS => exact (below_size (by repeat (first | (with_reducible first | exact HB.out | apply below_alloc | apply pw_below_drewN | apply below_drew1) | exact HB.out)))); (case aL => have := LMc20.out; omega); intro v152 w22 ho hb hg hat; rw [← Ny151.out] at ho; have n0_ := Aside0.mk (hb); have n1_ := Aside0.mk (ho); clear HB; clear HO_9; have HB := n0_; have HO153 := n1_; clear n0_ n1_; clear ho hb hg hat))
                              go_roundg k4
                              case measure => have := HJ3.out; have := HJ7.out; have := HK3.out; have := HK4.out; omega
                              case rel => exact ⟨(y151), H', ⟨by have := HJ3.out; have := HJ7.out; have := HK3.out; have := HK4.out; omega⟩, ⟨by (with_reducible repeat (first | apply Kd.R_alloc | apply Kd.R_drewN | apply Kd.R_drew)); exact HO153.out⟩, ⟨by repeat (first | (with_reducible first | exact HB.out | apply below_alloc | apply pw_below_drewN | apply below_drew1) | exact HB.out)⟩⟩
                            · rw [if_neg c20] at H
                              exact absurd H (by simp)
                          · rw [if_neg c19] at H
                            have c19b0 : decide ((x9_4.length : Int) < a2) = false := decide_eq_false c19
                            clear c19
                            simp only [Option.some.injEq, Prod.mk.injEq] at H
                            obtain ⟨rfl, rfl⟩ := H
                            obtain ⟨Ao23, co23, eo23⟩ := Kd.R_slice HO_9.out
                            subst eo23
                            have hcv24 := own_string (P := Try.prog) Try.underlying42 Try.underlying5 Try.underlying9 (Kd.own_of_R HO_9.out)
                            go_wp2
                            go_ret2
                            exact ⟨by first | rfl | (simp [errW_none, errW_some] <;> rfl) | (simp [*, errW_none, errW_some] <;> rfl), by repeat (first | (with_reducible first | exact HB.out | apply below_alloc | apply pw_below_drewN | apply below_drew1) | exact HB.out)⟩

end Go.Proofs.Ytaiieopllffljaa.PAll
