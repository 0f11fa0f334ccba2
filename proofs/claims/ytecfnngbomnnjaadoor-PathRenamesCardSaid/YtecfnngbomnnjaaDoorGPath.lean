/- Contracts of path.Name, path.checked and what they call, typed by hand for the printed callers. -/
import Derived.Test.YtecfnngbomnnjaaDoorProg
import Derived.Test.YtecfnngbomnnjaaDoorWMore
import Derived.Laws.RangeString
import Derived.Laws.RangeAny
import Derived.Test.YtecfnngbomnnjaaDoorShelf
import Derived.BigQuiet
import Derived.Deep.QuietTactic
import Derived.LoopTactic
namespace Go.Proofs.YtecfnngbomnnjaaDoor.G
open Go.RowKit Go.Proofs.YtecfnngbomnnjaaDoorW.PrintWords Go.Proofs.YtecfnngbomnnjaaDoorW.PrintLast Go.Proofs.YtecfnngbomnnjaaDoorW.PrintMore
set_option linter.unusedVariables false
set_option linter.unusedSimpArgs false

theorem nth (s : ByteArray) (i : Nat) (h : i < s.size) : ((s[i]'h).toNat : Int) = bt s i := by
  have := bt_at s (i : Int) (by simpa using h)
  simpa using this
/-- May the byte stand in a name? -/
def goodB (c : Int) : Bool := decide (33 ≤ c) && decide (c ≤ 126) && !(c == 47)
def allGood (s : ByteArray) : Bool := (List.range s.size).all fun i => goodB (bt s i)
theorem allGood_iff (s : ByteArray) : allGood s = true ↔ ∀ i : Nat, i < s.size → goodB (bt s i) = true := by
  unfold allGood
  rw [List.all_eq_true]
  exact ⟨fun h i hi => h i (List.mem_range.2 hi), fun h i hi => h i (List.mem_range.1 hi)⟩
theorem goodB_iff (c : Int) : goodB c = true ↔ 33 ≤ c ∧ c ≤ 126 ∧ c ≠ 47 := by
  unfold goodB
  simp
  omega
/-- Is it a name? -/
def nameB (s : ByteArray) : Bool := decide (1 ≤ s.size) && decide (s.size ≤ 32) && !(s.toList == [46]) && !(s.toList == [46, 46]) && allGood s
def path_Name.f (a0 : ByteArray) : Option Int := some (if nameB a0 = true then 0 else 111)

theorem decode_low (s : ByteArray) (p : Nat) (h : p < s.size) (hz : goodB (bt s p) = true) : Utf8.decode s p = ((bt s p).toNat, 1) := by
  have e := nth s p h
  have := (goodB_iff _).1 hz
  rw [decode_ascii s p h (by omega)]
  congr 1
  omega
theorem decode_bad (s : ByteArray) (p : Nat) (h : p < s.size) (hz : goodB (bt s p) = false) : ((Utf8.decode s p).1 : Int) ≤ 32 ∨ 126 < ((Utf8.decode s p).1 : Int) ∨ ((Utf8.decode s p).1 : Int) = 47 := by
  have e := nth s p h
  by_cases ha : (s[p]'h).toNat < 128
  · rw [decode_ascii s p h ha]
    have : ¬ (33 ≤ bt s p ∧ bt s p ≤ 126 ∧ bt s p ≠ 47) := fun hc => by rw [(goodB_iff _).2 hc] at hz; cases hz
    simp only
    omega
  · have := (decode_high s p h (by omega)).1
    omega

set_option maxHeartbeats 800000 in
set_option maxRecDepth 100000 in
theorem path_Name.loop (a0 : ByteArray) (w : World) (h1 : (a0.toList == []) = false) (h2 : decide (32 < (a0.size : Int)) = false) (h3 : (a0.toList == [46]) = false) (h4 : (a0.toList == [46, 46]) = false)
    (r : Int) (HR : Aside0 ((allGood a0 = true → r = 0) ∧ (allGood a0 = false → r = 111))) :
    Calls Tryd.prog 14 #[.string a0] w fun e w' => e = .returned (.int .i64 r) ∧ Below w.heap.size w w' := by
  go_enter Tryd.func14, Tryd.ntmps14
  go_wp2_with fail
  go_loopw [] (fun w' => ∃ pos : Nat, w' = w.iter a0 pos ∧ Aside0 (∀ j : Nat, j < a0.size → j < pos → goodB (bt a0 j) = true)) (fun w' => a0.size - w'.iterPos w.heap.size)
  case atStart => exact ⟨0, rfl, ⟨fun j _ h => absurd h (by omega)⟩⟩
  case round =>
    obtain ⟨pos, rfl, HZ⟩ := hrel
    by_cases hp : pos < a0.size
    · have hnx : ∀ ty, (Instr.next (.pointer (some ⟨w.heap.size, 0, none⟩)) true ty).run Tryd.prog (w.iter a0 pos) = _ := fun ty => run_next_any w a0 pos ty hp
      by_cases hz : goodB (bt a0 pos) = true
      · rw [decode_low _ _ hp hz] at hnx
        have hg := (goodB_iff _).1 hz
        have e0 : (((bt a0 pos).toNat : Nat) : Int) = bt a0 pos := Int.toNat_of_nonneg (by omega)
        simp only [e0] at hnx
        have d1 : decide (bt a0 pos ≤ 32) = false := by simp; omega
        have d2 : decide (126 < bt a0 pos) = false := by simp; omega
        have d3 : (bt a0 pos == 47) = false := by simp; omega
        have HZ' : Aside0 (goodB (bt a0 pos) = true) := ⟨hz⟩
        clear hz hg e0
        go_wp2
        go_roundw
        case rel => exact ⟨pos + 1, rfl, ⟨fun j hj hjp => by
          by_cases e : j = pos
          · subst e; exact HZ'.out
          · exact HZ.out j hj (by omega)⟩⟩
        case measure =>
          have e1 := World.iterPos_iter w a0 (pos + 1)
          have e2 := World.iterPos_iter w a0 pos
          simp at e1 e2 ⊢
          omega
      · have hz' : goodB (bt a0 pos) = false := by simpa using hz
        have HA : Aside0 (allGood a0 = false) := ⟨by
          cases e : allGood a0 with
          | false => rfl
          | true => exact absurd ((allGood_iff a0).1 e pos hp) hz⟩
        have HB : Aside0 (((Utf8.decode a0 pos).1 : Int) ≤ 32 ∨ 126 < ((Utf8.decode a0 pos).1 : Int) ∨ ((Utf8.decode a0 pos).1 : Int) = 47) := ⟨decode_bad a0 pos hp hz'⟩
        clear hz hz'
        by_cases c1 : ((Utf8.decode a0 pos).1 : Int) ≤ 32
        · have d1 : decide (((Utf8.decode a0 pos).1 : Int) ≤ 32) = true := by simpa using c1
          clear c1
          go_wp2
          go_ret
          obtain rfl := HR.out.2 HA.out
          exact ⟨rfl, (Below.refl _ _).alloc (Nat.le_refl _) _⟩
        have d1 : decide (((Utf8.decode a0 pos).1 : Int) ≤ 32) = false := by simp; omega
        by_cases c2 : 126 < ((Utf8.decode a0 pos).1 : Int)
        · have d2 : decide (126 < ((Utf8.decode a0 pos).1 : Int)) = true := by simpa using c2
          clear c1 c2
          go_wp2
          go_ret
          obtain rfl := HR.out.2 HA.out
          exact ⟨rfl, (Below.refl _ _).alloc (Nat.le_refl _) _⟩
        have d2 : decide (126 < ((Utf8.decode a0 pos).1 : Int)) = false := by simp; omega
        have d3 : (((Utf8.decode a0 pos).1 : Int) == 47) = true := by have := HB.out; simp; omega
        clear c1 c2
        go_wp2
        go_ret
        obtain rfl := HR.out.2 HA.out
        exact ⟨rfl, (Below.refl _ _).alloc (Nat.le_refl _) _⟩
    · have hnx : ∀ ty, (Instr.next (.pointer (some ⟨w.heap.size, 0, none⟩)) true ty).run Tryd.prog (w.iter a0 pos) = _ := fun ty => run_next_end w a0 pos ty hp
      have HA : Aside0 (allGood a0 = true) := ⟨(allGood_iff a0).2 fun j hj => HZ.out j hj (by omega)⟩
      go_wp2
      go_ret
      obtain rfl := HR.out.1 HA.out
      exact ⟨rfl, (Below.refl _ _).alloc (Nat.le_refl _) _⟩

set_option maxHeartbeats 800000 in
set_option maxRecDepth 100000 in
theorem path_Name.refuse (a0 : ByteArray) (w : World) (h : nameB a0 = false) (h' : (a0.toList == []) = true ∨ decide (32 < (a0.size : Int)) = true ∨ (a0.toList == [46]) = true ∨ (a0.toList == [46, 46]) = true) :
    Calls Tryd.prog 14 #[.string a0] w fun e w' => e = .returned (.int .i64 111) ∧ Below w.heap.size w w' := by
  by_cases h1 : (a0.toList == []) = true
  · clear h h'
    go_enter Tryd.func14, Tryd.ntmps14
    go_wp2
    go_ret
    exact ⟨rfl, Below.refl _ _⟩
  replace h1 : (a0.toList == []) = false := by simpa using h1
  by_cases h2 : decide (32 < (a0.size : Int)) = true
  · clear h h'
    go_enter Tryd.func14, Tryd.ntmps14
    go_wp2
    go_ret
    exact ⟨rfl, Below.refl _ _⟩
  replace h2 : decide (32 < (a0.size : Int)) = false := by simpa using h2
  by_cases h3 : (a0.toList == [46]) = true
  · clear h h'
    go_enter Tryd.func14, Tryd.ntmps14
    go_wp2
    go_ret
    exact ⟨rfl, Below.refl _ _⟩
  replace h3 : (a0.toList == [46]) = false := by simpa using h3
  have h4 : (a0.toList == [46, 46]) = true := by simpa [h1, h2, h3] using h'
  clear h h'
  go_enter Tryd.func14, Tryd.ntmps14
  go_wp2
  go_ret
  exact ⟨rfl, Below.refl _ _⟩
theorem path_Name.calls (a0 : ByteArray) (r : Int) (w : World) (h : path_Name.f a0 = some r) :
    Calls Tryd.prog 14 #[.string a0] w fun e w' => e = .returned (.int .i64 r) ∧ Below w.heap.size w w' := by
  have h := Option.some.inj h
  have h0 : (a0.toList == []) = !decide (1 ≤ a0.size) := by
    rw [ByteArray.toList_eq]
    by_cases e : a0.size = 0
    · have : a0.data.toList = [] := List.eq_nil_of_length_eq_zero (by simpa using e)
      simp [this, e]
    · have : a0.data.toList ≠ [] := fun hc => e (by have := congrArg List.length hc; simpa using this)
      have h1 : 1 ≤ a0.size := by omega
      rw [decide_eq_true h1, beq_eq_false_iff_ne.2 this]
      rfl
  have h32 : decide (32 < (a0.size : Int)) = !decide (a0.size ≤ 32) := by
    by_cases e : a0.size ≤ 32
    · simp [e]; omega
    · simp [e]; omega
  by_cases hq : (a0.toList == []) = true ∨ decide (32 < (a0.size : Int)) = true ∨ (a0.toList == [46]) = true ∨ (a0.toList == [46, 46]) = true
  · have hn : nameB a0 = false := by
      unfold nameB
      rcases hq with q | q | q | q
      · rw [h0] at q
        simp at q
        simp [q]
      · rw [h32] at q
        simp at q
        have : ¬ a0.size ≤ 32 := by omega
        simp [this]
      · simp [q]
      · simp [q]
    rw [hn] at h
    subst h
    exact path_Name.refuse a0 w hn hq
  · simp only [not_or, Bool.not_eq_true] at hq
    obtain ⟨q1, q2, q3, q4⟩ := hq
    have hn : nameB a0 = allGood a0 := by
      unfold nameB
      rw [h0] at q1
      rw [h32] at q2
      simp only [Bool.not_eq_false'] at q1 q2
      rw [q1, q2, q3, q4]
      rfl
    rw [hn] at h
    refine path_Name.loop a0 w q1 q2 q3 q4 r ⟨⟨fun e => ?_, fun e => ?_⟩⟩
    · rw [e] at h; exact h.symm
    · rw [e] at h; exact h.symm

/-! ### the closure and its search -/
set_option maxHeartbeats 800000 in
theorem checked1_calls (a0 : ByteArray) (w : World) :
    Calls Tryd.prog 41 #[.string a0] w fun e w' => e = .returned (.bool (!nameB a0)) ∧ Below w.heap.size w w' := by
  obtain ⟨b, hb⟩ : ∃ b, nameB a0 = b := ⟨_, rfl⟩
  have h := path_Name.calls a0 (if b = true then 0 else 111) w (by unfold path_Name.f; rw [hb])
  rw [hb]
  clear hb
  cases b
  · go_enter Tryd.func41, Tryd.ntmps41
    go_wp2_with fail
    refine h.mono ?_
    rintro e w1 ⟨rfl, hb1⟩
    go_wp2_with fail
    go_ret
    exact ⟨rfl, hb1⟩
  · go_enter Tryd.func41, Tryd.ntmps41
    go_wp2_with fail
    refine h.mono ?_
    rintro e w1 ⟨rfl, hb1⟩
    go_wp2_with fail
    go_ret
    exact ⟨rfl, hb1⟩
theorem C_str {w : World} {A : Option Addr} {n : Nat} {l : List ByteArray} (h : Kd.C Kd.string w A n l) (i : Nat) (hi : i < l.length) : ∃ ad, A = some ad ∧ w.cell? (ad.add i) = some (.string (l[i]'hi)) := by
  have hn : 0 < n := by have := h.1; omega
  obtain ⟨ad, e, hc⟩ := h.2.2 hn
  obtain ⟨c, hs, hr, hcell⟩ := hc i _ (List.getElem?_eq_getElem hi)
  refine ⟨ad, e, ?_⟩
  have hr' : c = [Value.string (l[i]'hi)] := hr
  subst hr'
  have hk := hcell 0 _ rfl
  have h1 : i * (Kd.string).sz + 0 = i := Nat.mul_one i
  rw [h1] at hk
  exact hk
theorem all_take (l : List ByteArray) (k : Nat) (hk : k < l.length) (h : ∀ j (hj : j < l.length), j < k → nameB (l[j]'hj) = true) (hn : nameB (l[k]'hk) = true) : ∀ j (hj : j < l.length), j < k + 1 → nameB (l[j]'hj) = true := by
  intro j hj h1
  by_cases e : j = k
  · subst e; exact hn
  · exact h j hj (by omega)
set_option maxHeartbeats 800000 in
set_option maxRecDepth 100000 in
theorem indexFunc_calls (A0 : Option Addr) (c0 : Nat) (l0 : List ByteArray) (w : World) (hr0 : Kd.C Kd.string w A0 l0.length l0) :
    Calls Tryd.prog 49 #[.slice A0 l0.length c0, .func (.func 41) #[] #[]] w fun e w' => (∃ r : Int, e = .returned (.int .i64 r) ∧ Aside0 (decide (0 ≤ r) = !(l0.all nameB)) ∧ Below w.heap.size w w') := by
  have hmax := hr0.2.1
  go_enter Tryd.func49, Tryd.ntmps49
  go_wp2_with fail
  have HR0 := Aside0.mk hr0
  clear hr0
  go_loopw [8] (fun v8 w' => ∃ k : Nat, k ≤ l0.length ∧ v8 = .int .i64 k ∧ Below w.heap.size w w' ∧ Aside0 (∀ j (hj : j < l0.length), j < k → nameB (l0[j]'hj) = true)) (fun v8 _ => l0.length - (intOf v8).toNat)
  case atStart => exact ⟨0, Nat.zero_le _, rfl, Below.refl _ _, ⟨fun j _ h => absurd h (by omega)⟩⟩
  case round =>
    obtain ⟨k, hk, rfl, hb, HZ⟩ := hrel
    by_cases hlt : k < l0.length
    · obtain ⟨ad, rfl, hc⟩ := C_str (Kd.C_below HR0.out hb) k hlt
      have HB := Aside0.mk hb
      clear hb
      obtain ⟨b, hb⟩ : ∃ b, nameB l0[k] = b := ⟨_, rfl⟩
      have HN := Aside0.mk hb
      cases b
      · clear hb
        go_wp2_with fail
        refine (checked1_calls _ _).mono ?_
        rintro e w1 ⟨rfl, hb1⟩
        rw [HN.out]
        go_wp2_with fail
        go_ret
        refine ⟨k, rfl, ⟨?_⟩, HB.out.trans (hb1.mono HB.out.size)⟩
        have : l0.all nameB = false := by
          rw [List.all_eq_false]
          exact ⟨_, List.getElem_mem hlt, by rw [HN.out]; decide⟩
        rw [this]
        simp
      · clear hb
        go_wp2_with fail
        refine (checked1_calls _ _).mono ?_
        rintro e w1 ⟨rfl, hb1⟩
        rw [HN.out]
        go_wp2_with fail
        go_roundw
        case rel => exact ⟨k + 1, by omega, by go_num, HB.out.trans (hb1.mono HB.out.size), ⟨all_take l0 k hlt HZ.out HN.out⟩⟩
        case measure => simp [intOf]; omega
    · have HB := Aside0.mk hb
      clear hb
      go_wp2_with fail
      go_ret
      refine ⟨-1, rfl, ⟨?_⟩, HB.out⟩
      have : l0.all nameB = true := by
        rw [List.all_eq_true]
        intro x hx
        obtain ⟨j, hj, rfl⟩ := List.getElem_of_mem hx
        exact HZ.out j hj (by omega)
      rw [this]
      decide
set_option maxHeartbeats 800000 in
set_option maxRecDepth 100000 in
theorem containsFunc_calls (A0 : Option Addr) (c0 : Nat) (l0 : List ByteArray) (w : World) (hr0 : Kd.C Kd.string w A0 l0.length l0) (b : Bool) (hb : Aside0 (l0.all nameB = b)) :
    Calls Tryd.prog 40 #[.slice A0 l0.length c0, .func (.func 41) #[] #[]] w fun e w' => e = .returned (.bool !b) ∧ Below w.heap.size w w' := by
  have HR0 := Aside0.mk hr0
  clear hr0
  go_enter Tryd.func40, Tryd.ntmps40
  go_wp2_with fail
  refine (indexFunc_calls A0 c0 l0 w HR0.out).mono ?_
  rintro e w1 ⟨r, rfl, HD, hb1⟩
  go_wp2_with fail
  go_ret
  refine ⟨?_, hb1⟩
  have := HD.out
  rw [hb.out] at this
  simp [this]
def path_checked.f (l0 : List ByteArray) : Option Int := some (if l0.all nameB = true then (if l0.length > 16 then 112 else 0) else 111)
set_option maxHeartbeats 800000 in
set_option maxRecDepth 100000 in
theorem path_checked.calls (A0 : Option Addr) (c0 : Nat) (l0 : List ByteArray) (r : Int) (w : World) (hr0 : Kd.C Kd.string w A0 l0.length l0) (hc0 : l0.length ≤ c0) (h : path_checked.f l0 = some r) :
    Calls Tryd.prog 26 #[.slice A0 l0.length c0] w fun e w' => e = .returned (.int .i64 r) ∧ Below w.heap.size w w' := by
  have h := Option.some.inj h
  have hmax := hr0.2.1
  have HR0 := Aside0.mk hr0
  clear hr0
  obtain ⟨b, hb⟩ : ∃ b, l0.all nameB = b := ⟨_, rfl⟩
  rw [hb] at h
  have HB := Aside0.mk hb
  clear hb
  cases b
  · subst h
    go_enter Tryd.func26, Tryd.ntmps26
    go_wp2_with fail
    refine (containsFunc_calls A0 c0 l0 w HR0.out false HB).mono ?_
    rintro e w1 ⟨rfl, hb1⟩
    go_wp2_with fail
    go_ret
    exact ⟨rfl, hb1⟩
  · by_cases h16 : l0.length > 16
    · rw [if_pos rfl, if_pos h16] at h
      subst h
      have d1 : decide (16 < (l0.length : Int)) = true := by simp; omega
      go_enter Tryd.func26, Tryd.ntmps26
      go_wp2_with fail
      refine (containsFunc_calls A0 c0 l0 w HR0.out true HB).mono ?_
      rintro e w1 ⟨rfl, hb1⟩
      go_wp2_with fail
      go_ret
      exact ⟨rfl, hb1⟩
    · rw [if_pos rfl, if_neg h16] at h
      subst h
      have d1 : decide (16 < (l0.length : Int)) = false := by simp; omega
      go_enter Tryd.func26, Tryd.ntmps26
      go_wp2_with fail
      refine (containsFunc_calls A0 c0 l0 w HR0.out true HB).mono ?_
      rintro e w1 ⟨rfl, hb1⟩
      go_wp2_with fail
      go_ret
      exact ⟨rfl, hb1⟩

/-! ### strings.Join -/
theorem cell_spot {w : World} {a : Addr} {v : Value} (h : w.cell? a = some v) : a.spot = none ∧ a.block < w.heap.size := by
  refine ⟨?_, World.block_lt_of_cell? w a h⟩
  unfold World.cell? at h
  split at h
  · split at h
    · cases h
    · rename_i hs
      cases hsp : a.spot with
      | none => rfl
      | some x => simp [hsp] at hs
  · cases h
theorem Addr.add_none (b o : Nat) (n : Nat) : (⟨b, o, none⟩ : Addr).add n = ⟨b, o + n, none⟩ := by
  unfold Addr.add
  split
  · subst_vars; rfl
  · rfl
def joinS (l0 : List ByteArray) (sep : ByteArray) : ByteArray := ⟨(Lib.join (l0.map (·.data.toList)) sep.data.toList).toArray⟩
def strings_Join.f (l0 : List ByteArray) (a1 : ByteArray) : Option ByteArray := if (Lib.join (l0.map (·.data.toList)) a1.data.toList).length ≤ 140737488355328 ∧ l0.length ≤ 140737488355328 then some (joinS l0 a1) else none
theorem strings_Join.calls (A0 : Option Addr) (c0 : Nat) (l0 : List ByteArray) (a1 : ByteArray) (r : ByteArray) (w : World) (hr0 : Kd.C Kd.string w A0 l0.length l0) (hc0 : l0.length ≤ c0) (h : strings_Join.f l0 a1 = some r) :
    Calls Tryd.prog 29 #[.slice A0 l0.length c0, .string a1] w fun e w' => e = .returned (.string r) ∧ Below w.heap.size w w' := by
  unfold strings_Join.f at h
  split at h
  · rename_i hl
    cases h
    by_cases hn : l0.length = 0
    · obtain rfl := List.eq_nil_of_length_eq_zero hn
      refine (Tryd.strings_Join_none A0 c0 a1 w).mono ?_
      rintro e w' ⟨rfl, rfl⟩
      exact ⟨rfl, Below.refl _ _⟩
    · obtain ⟨ad, rfl, hc⟩ := C_str hr0 0 (by omega)
      have hs := cell_spot hc
      rw [show ad.add 0 = ad from rfl] at hs
      obtain ⟨bk, o, sp⟩ := ad
      obtain rfl : sp = none := hs.1
      refine Tryd.strings_Join bk o c0 l0 a1 w (fun j x hx => ?_) hs.2 hl.2 hc0 hl.1
      obtain ⟨hj, rfl⟩ := List.getElem?_eq_some_iff.1 hx
      obtain ⟨ad', e, hc'⟩ := C_str hr0 j hj
      injection e with e
      subst e
      rw [Addr.add_none] at hc'
      exact hc'
  · cases h

/-! ### roomy -/
def marks : List ByteArray := [⟨#[98, 101, 104, 105, 110, 100]⟩, ⟨#[98, 101, 104, 105, 110, 100, 32, 105, 116]⟩, ⟨#[]⟩]
def casketlaw11_roomy.f (l0 : List ByteArray) : Option (List ByteArray) := if l0.length * 16 ≤ 140737488351232 then some (l0 ++ marks) else none
theorem marks_read (w1 : World) : (Kd.scalar Value.string (fun _ => rfl)).C (w1.alloc (.cells #[.string ⟨#[98, 101, 104, 105, 110, 100]⟩, .string ⟨#[98, 101, 104, 105, 110, 100, 32, 105, 116]⟩, .string ⟨#[]⟩] 9)) (some ⟨w1.heap.size, 0, none⟩) 3 marks := by
  refine ⟨rfl, by decide, fun _ => ⟨_, rfl, fun j p hp => ?_⟩⟩
  obtain ⟨hj, rfl⟩ := List.getElem?_eq_some_iff.1 hp
  refine ⟨[.string (marks[j]'hj)], rfl, rfl, fun i u hu => ?_⟩
  obtain ⟨hi, rfl⟩ := List.getElem?_eq_some_iff.1 hu
  have hi0 : i = 0 := by simpa using hi
  subst hi0
  have hj3 : j = 0 ∨ j = 1 ∨ j = 2 := by have : j < 3 := hj; omega
  rw [Addr.add_none]
  rcases hj3 with rfl | rfl | rfl <;> simp [marks, Kd.scalar, go_sem]
theorem info_str : (Tryd.prog.info? 9).map (fun i => (i.zero, i.size, i.bytes)) = some (some (.string ⟨#[]⟩), 1, 16) := by kernel_rfl
set_option maxHeartbeats 800000 in
set_option maxRecDepth 100000 in
theorem casketlaw11_roomy.calls (A0 : Option Addr) (c0 : Nat) (l0 : List ByteArray) (r : List ByteArray) (w : World) (hr0 : Kd.C Kd.string w A0 l0.length l0) (hc0 : l0.length ≤ c0) (h : casketlaw11_roomy.f l0 = some r) :
    Calls Tryd.prog 17 #[.slice A0 l0.length c0] w fun e w' => ∃ v0_ : Value, e = .returned (v0_) ∧ Kd.R Kd.string 9 w' w.heap.size (fun _ => True) v0_ r ∧ Below w.heap.size w w' := by
  unfold casketlaw11_roomy.f at h
  split at h
  · rename_i hl
    have HH := Aside0.mk (Option.some.inj h)
    clear h
    have HR0 := Aside0.mk hr0
    clear hr0
    go_enter Tryd.func17, Tryd.ntmps17
    go_wp2_with (at_builtin; refine Kd.R_append_row Value.string ⟨#[]⟩ (w0 := w) w.heap.size rfl _ _ 22 9 (.string ⟨#[]⟩) 16 rfl Tryd.underlying22 info_str rfl (by decide) (.slice none 0 0) [] l0 _ _ _ (fun _ => True) rfl rfl (fun _ _ => trivial) (Kd.R_nil _ _ _ _ _) HR0.out (Below.refl _ _) (Nat.le_refl _) (by simp; omega) ?_)
    intro v1 w1 hR hb hg hat
    clear hg hat
    have HR := Aside0.mk hR
    have HB := Aside0.mk hb
    clear hR hb
    go_wp2_with (at_builtin; refine Kd.R_append_row Value.string ⟨#[]⟩ (h1 := fun _ => rfl) (w0 := w) w.heap.size rfl _ _ 22 9 (.string ⟨#[]⟩) 16 rfl Tryd.underlying22 info_str rfl (by decide) v1 l0 marks (some ⟨w1.heap.size, 0, none⟩) 3 3 (fun _ => True) rfl rfl (fun _ _ => trivial) ?ho ?hr ?hb ?hs ?hl ?_)
    case ho => exact Kd.R_below HR.out (below_alloc (Below.refl _ _) _)
    case hr => exact marks_read w1
    case hb => exact HB.out.alloc HB.out.size _
    case hs => exact Nat.le_trans HB.out.size (by show _ ≤ (w1.heap.push _).size; rw [Array.size_push]; omega)
    case hl => omega
    intro v2 w2 hR2 hb2 _ _
    have HR2 := Aside0.mk hR2
    have HB2 := Aside0.mk hb2
    clear hR2 hb2
    go_wp2_with fail
    go_ret
    refine ⟨v2, rfl, ?_, HB2.out⟩
    rw [← HH.out]
    exact HR2.out
  · cases h

/-! ### slices.Equal, path.Inside -/
theorem C_take {α : Type} {d : Kd α} {w : World} {A : Option Addr} {n : Nat} {l : List α} (h : d.C w A n l) (k : Nat) (hk : k ≤ n) : d.C w A k (l.take k) := by
  have hl := h.1
  refine ⟨by rw [List.length_take]; omega, by have := h.2.1; omega, fun h0 => ?_⟩
  obtain ⟨ad, e, hc⟩ := h.2.2 (by omega)
  refine ⟨ad, e, fun j p hp => hc j p ?_⟩
  rw [List.getElem?_take] at hp
  split at hp
  · exact hp
  · cases hp
theorem equal_calls (A0 : Option Addr) (c0 n : Nat) (l0 : List ByteArray) (A1 : Option Addr) (c1 m : Nat) (l1 : List ByteArray) (w : World) (hr0 : Kd.C Kd.string w A0 n l0) (hr1 : Kd.C Kd.string w A1 m l1) :
    Calls Tryd.prog 36 #[.slice A0 n c0, .slice A1 m c1] w fun e w' => e = .returned (.bool (decide (l0 = l1))) ∧ Drawn0 w w' := by
  have h0 := hr0.1
  have h1 := hr1.1
  by_cases hnm : n = m
  · subst hnm
    by_cases hz : n = 0
    · subst hz
      obtain rfl := List.eq_nil_of_length_eq_zero h0
      obtain rfl := List.eq_nil_of_length_eq_zero h1
      refine (Tryd.slices_Equal_string_empty A0 A1 c0 0 c1 w (by decide)).mono ?_
      rintro e w' ⟨rfl, rfl⟩
      exact ⟨rfl, Drawn0.refl _⟩
    · have key : ∀ {A : Option Addr} {l : List ByteArray}, Kd.C Kd.string w A n l → l.length = n → ∃ b o, A = some ⟨b, o, none⟩ ∧ ∀ j, j < l.length → w.cell? ⟨b, o + j, none⟩ = some (.string (l.getD j ByteArray.empty)) := by
        intro A l hr hl
        obtain ⟨ad, rfl, hc⟩ := C_str hr 0 (by omega)
        have hs := cell_spot hc
        rw [show ad.add 0 = ad from rfl] at hs
        obtain ⟨bk, o, sp⟩ := ad
        obtain rfl : sp = none := hs.1
        refine ⟨bk, o, rfl, fun j hj => ?_⟩
        obtain ⟨ad', e, hc'⟩ := C_str hr j hj
        injection e with e
        subst e
        rw [Addr.add_none] at hc'
        rw [hc', List.getD_eq_getElem?_getD, List.getElem?_eq_getElem hj]
        rfl
      obtain ⟨b1, o1, rfl, g1⟩ := key hr0 h0
      obtain ⟨b2, o2, rfl, g2⟩ := key hr1 h1
      refine (Tryd.slices_Equal_string b1 o1 n c0 b2 o2 n c1 l0 l1 w (by omega) (by omega) hr0.2.1 hr1.2.1 g1 g2).mono ?_
      rintro e w' ⟨rfl, q, rfl⟩
      rw [List.take_of_length_le (by omega), List.take_of_length_le (by omega)]
      exact ⟨rfl, (Drawn0.refl _).step q⟩
  · refine (Tryd.slices_Equal_string_lens A0 A1 n c0 m c1 w hnm).mono ?_
    rintro e w' ⟨rfl, rfl⟩
    have : ¬ l0 = l1 := fun e => hnm (by rw [← h0, ← h1, e])
    rw [decide_eq_false this]
    exact ⟨rfl, Drawn0.refl _⟩
def slices_Equal_string_string.f (l0 l1 : List ByteArray) : Option Bool := some (decide (l0 = l1))
theorem slices_Equal_string_string.calls (A0 : Option Addr) (c0 : Nat) (l0 : List ByteArray) (A1 : Option Addr) (c1 : Nat) (l1 : List ByteArray) (r : Bool) (w : World) (hr0 : Kd.C Kd.string w A0 l0.length l0) (hc0 : l0.length ≤ c0) (hr1 : Kd.C Kd.string w A1 l1.length l1) (hc1 : l1.length ≤ c1) (h : slices_Equal_string_string.f l0 l1 = some r) :
    Calls Tryd.prog 36 #[.slice A0 l0.length c0, .slice A1 l1.length c1] w fun e w' => e = .returned (.bool r) ∧ Drawn0 w w' := by
  cases h
  exact equal_calls A0 c0 _ l0 A1 c1 _ l1 w hr0 hr1
/-- Does the one begin as the other? -/
def insideB (l0 l1 : List ByteArray) : Bool := decide (l0.length ≤ l1.length) && decide (l0 = l1.take l0.length)
def path_Inside.f (l0 l1 : List ByteArray) : Option Bool := some (insideB l0 l1)
set_option maxHeartbeats 800000 in
set_option maxRecDepth 100000 in
theorem path_Inside.calls (A0 : Option Addr) (c0 : Nat) (l0 : List ByteArray) (A1 : Option Addr) (c1 : Nat) (l1 : List ByteArray) (r : Bool) (w : World) (hr0 : Kd.C Kd.string w A0 l0.length l0) (hc0 : l0.length ≤ c0) (hr1 : Kd.C Kd.string w A1 l1.length l1) (hc1 : l1.length ≤ c1) (h : path_Inside.f l0 l1 = some r) :
    Calls Tryd.prog 21 #[.slice A0 l0.length c0, .slice A1 l1.length c1] w fun e w' => e = .returned (.bool r) ∧ Drawn0 w w' := by
  have h := Option.some.inj h
  have hm0 := hr0.2.1
  have hm1 := hr1.2.1
  have HR0 := Aside0.mk hr0
  have HR1 := Aside0.mk hr1
  clear hr0 hr1
  unfold insideB at h
  by_cases hle : l0.length ≤ l1.length
  · rw [decide_eq_true hle, Bool.true_and] at h
    have d1 : decide ((l0.length : Int) ≤ (l1.length : Int)) = true := by simp; omega
    obtain ⟨i07, hi07, _, hsz7, _⟩ := info_parts info_str
    obtain ⟨hcut7, hA7, hC7⟩ := print_take_of (P := Tryd.prog) Value.string (⟨#[]⟩ : ByteArray) 22 9 .i64 Tryd.underlying22 hi07 hsz7 A1 c1 l1 (l0.length : Int) (by omega) (by omega) hc1
    have HT := Aside0.mk (C_take HR1.out l0.length hle)
    clear hA7 hC7 hi07 hsz7
    subst h
    go_enter Tryd.func21, Tryd.ntmps21
    go_wp2_with fail
    refine (equal_calls A0 c0 l0.length l0 A1 c1 _ (l1.take l0.length) w HR0.out (by first | exact HT.out | (simpa [Nat.min_eq_left hle] using HT.out))).mono ?_
    rintro e w' ⟨rfl, ⟨nd, rfl⟩⟩
    go_wp2_with fail
    go_ret
    exact ⟨rfl, (Drawn0.refl _).step _⟩
  · rw [decide_eq_false hle, Bool.false_and] at h
    have d1 : decide ((l0.length : Int) ≤ (l1.length : Int)) = false := by simp; omega
    subst h
    go_enter Tryd.func21, Tryd.ntmps21
    go_wp2_with fail
    go_ret
    exact ⟨rfl, Drawn0.refl _⟩
end Go.Proofs.YtecfnngbomnnjaaDoor.G
