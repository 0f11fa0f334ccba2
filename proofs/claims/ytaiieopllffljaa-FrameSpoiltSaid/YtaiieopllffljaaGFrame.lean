/- Contracts of frame.Unpack, frame.Pack and their callees, typed by hand for the printed callers. -/
import Derived.Test.YtaiieopllffljaaProg
import Derived.Test.YtaiieopllffljaaWMore
import Derived.Laws.RangeString
import Derived.Laws.RangeAny
import Derived.Test.YtaiieopllffljaaShelf
import Derived.BigQuiet
import Derived.Deep.RegionWith
import Derived.Deep.QuietTactic
import Derived.LoopTactic
namespace Go.Proofs.Ytaiieopllffljaa.G
open Go.RowKit Go.Proofs.YtaiieopllffljaaW.PrintWords Go.Proofs.YtaiieopllffljaaW.PrintLast Go.Proofs.YtaiieopllffljaaW.PrintMore
set_option linter.unusedVariables false
set_option linter.unusedSimpArgs false

/-- All bytes from the place n on are zeros. -/
def allz (s : ByteArray) (n : Nat) : Bool := (List.range s.size).all fun i => decide (i < n) || (bt s i == 0)
theorem allz_iff (s : ByteArray) (n : Nat) : allz s n = true ↔ ∀ i : Nat, n ≤ i → i < s.size → bt s i = 0 := by
  unfold allz
  rw [List.all_eq_true]
  constructor
  · intro h i h1 h2
    have := h i (List.mem_range.2 h2)
    simp only [Bool.or_eq_true, decide_eq_true_eq, beq_iff_eq] at this
    omega
  · intro h i hi
    simp only [Bool.or_eq_true, decide_eq_true_eq, beq_iff_eq]
    by_cases hn : i < n
    · exact .inl hn
    · exact .inr (h i (by omega) (List.mem_range.1 hi))
/-- The number that the head holds. -/
def headN (s : ByteArray) : Int := 16777216 * bt s 1 + 65536 * bt s 2 + 256 * bt s 3 + bt s 4

def frame_Unpack.f (a0 : Int) (a1 : ByteArray) : Option (ByteArray × Int) :=
  if (a1.size : Int) > 1048576 then some ((⟨#[]⟩ : ByteArray), 3)
  else if a0 < 1 ∨ a0 > 255 ∨ (a1.size : Int) < 5 ∨ bt a1 0 ≠ a0 then some ((⟨#[]⟩ : ByteArray), 92)
  else if headN a1 > (a1.size : Int) - 5 then some ((⟨#[]⟩ : ByteArray), 90)
  else if allz a1 (5 + (headN a1).toNat) = true then some (a1.extract 5 (5 + (headN a1).toNat), 0)
  else some ((⟨#[]⟩ : ByteArray), 91)

theorem nth (s : ByteArray) (i : Nat) (h : i < s.size) : ((s[i]'h).toNat : Int) = bt s i := by
  have := bt_at s (i : Int) (by simpa using h)
  simpa using this
theorem or_add (k : Nat) (x y : Int) (hx : 0 ≤ x) (hm : x % 2 ^ k = 0) (hx1 : x < 4611686018427387904) (hy : 0 ≤ y) (hy1 : y < 2 ^ k) (hk : y < 4611686018427387904) : bits .or .i64 x y = x + y :=
  bits_join .i64 62 (by decide) (fun n h0 h1 => IntWalk.i64_in _ (by omega)) k x y hx hm (by omega) hy hy1 (by omega)
theorem bits_head (x1 x2 x3 x4 : Int) (h1 : 0 ≤ x1 ∧ x1 ≤ 255) (h2 : 0 ≤ x2 ∧ x2 ≤ 255) (h3 : 0 ≤ x3 ∧ x3 ≤ 255) (h4 : 0 ≤ x4 ∧ x4 ≤ 255) :
    bits .or .i64 (bits .or .i64 (bits .or .i64 (x1 * 16777216) (x2 * 65536)) (x3 * 256)) x4 = 16777216 * x1 + 65536 * x2 + 256 * x3 + x4 := by
  rw [or_add 24 (x1 * 16777216) (x2 * 65536) (by omega) (by omega) (by omega) (by omega) (by omega) (by omega)]
  rw [or_add 16 _ (x3 * 256) (by omega) (by omega) (by omega) (by omega) (by omega) (by omega)]
  rw [or_add 8 _ x4 (by omega) (by omega) (by omega) (by omega) (by omega) (by omega)]
  omega

/-- What stands behind the body. -/
def tailS (s : ByteArray) (n : Nat) : ByteArray := (s.extract 5 s.size).extract n (s.size - 5)
theorem tailS_size (s : ByteArray) (n : Nat) (h : 5 + n ≤ s.size) : (tailS s n).size = s.size - 5 - n := by
  simp [tailS]
theorem tailS_at (s : ByteArray) (n j : Nat) (h : j < (tailS s n).size) (h5 : 5 + n ≤ s.size) : (((tailS s n)[j]'h).toNat : Int) = bt s ((5 + n + j : Nat) : Int) := by
  have hs := tailS_size s n h5
  rw [← nth s (5 + n + j) (by omega)]
  simp only [tailS, ByteArray.getElem_extract]
  congr 3
  omega
theorem tail_zero (s : ByteArray) (n : Nat) (h5 : 5 + n ≤ s.size) (h : allz s (5 + n) = true) : ∀ j (hj : j < (tailS s n).size), (((tailS s n)[j]'hj).toNat : Int) = 0 := by
  intro j hj
  rw [tailS_at s n j hj h5]
  have hs := tailS_size s n h5
  exact (allz_iff s (5 + n)).1 h _ (by omega) (by omega)
theorem tail_nonzero (s : ByteArray) (n : Nat) (h5 : 5 + n ≤ s.size) (h : allz s (5 + n) = false) : ∃ j, ∃ hj : j < (tailS s n).size, (((tailS s n)[j]'hj).toNat : Int) ≠ 0 := by
  have hs := tailS_size s n h5
  have h' : ¬ ∀ i : Nat, 5 + n ≤ i → i < s.size → bt s i = 0 := by
    intro hc
    rw [(allz_iff s (5 + n)).2 hc] at h
    cases h
  simp only [Classical.not_forall] at h'
  obtain ⟨i, h1, h2, h3⟩ := h'
  refine ⟨i - (5 + n), by omega, ?_⟩
  rw [tailS_at s n _ (by omega) h5, show 5 + n + (i - (5 + n)) = i by omega]
  exact h3
theorem decode_zero (s : ByteArray) (p : Nat) (h : p < s.size) (hz : ((s[p]'h).toNat : Int) = 0) : Utf8.decode s p = (0, 1) := by
  rw [decode_ascii s p h (by omega)]
  congr 1
  omega
theorem decode_nz (s : ByteArray) (p : Nat) (h : p < s.size) (hz : ((s[p]'h).toNat : Int) ≠ 0) : ((Utf8.decode s p).1 : Int) ≠ 0 := by
  by_cases ha : (s[p]'h).toNat < 128
  · rw [decode_ascii s p h ha]
    exact hz
  · have := (decode_high s p h (by omega)).1
    omega

theorem cut_twice (s : ByteArray) (n : Nat) (h : 5 + n ≤ s.size) : (s.extract 5 s.size).extract 0 n = s.extract 5 (5 + n) := by
  rw [ByteArray.extract_extract]
  congr 1
  omega
set_option maxHeartbeats 800000 in
set_option maxRecDepth 100000 in
theorem frame_Unpack.loop (a0 : Int) (a1 : ByteArray) (w : World) (n : Nat) (hn : 16777216 * bt a1 1 + 65536 * bt a1 2 + 256 * bt a1 3 + bt a1 4 = (n : Int)) (h5n : 5 + n ≤ a1.size)
    (h1 : (a1.size : Int) ≤ 1048576) (h2 : 1 ≤ a0) (h3 : a0 ≤ 255) (h4 : 5 ≤ (a1.size : Int)) (h5 : (bt a1 0 != a0) = false)
    (r1 : ByteArray) (r2 : Int) (HR : Aside0 ((allz a1 (5 + n) = true → r1 = a1.extract 5 (5 + n) ∧ r2 = 0) ∧ (allz a1 (5 + n) = false → r1 = ⟨#[]⟩ ∧ r2 = 91))) :
    Calls Try.prog 12 #[.int .i64 a0, .string a1] w fun e w' => e = .returned (.tuple #[.string r1, .int .i64 r2]) ∧ Below w.heap.size w w' := by
  have z0 : 0 < a1.size := by omega
  have z1 : 1 < a1.size := by omega
  have z2 : 2 < a1.size := by omega
  have z3 : 3 < a1.size := by omega
  have z4 : 4 < a1.size := by omega
  have p0 := nth a1 0 z0
  have p1 := nth a1 1 z1
  have p2 := nth a1 2 z2
  have p3 := nth a1 3 z3
  have p4 := nth a1 4 z4
  have r0 := bt_range a1 0
  have r1 := bt_range a1 1
  have r2 := bt_range a1 2
  have r3 := bt_range a1 3
  have r4 := bt_range a1 4
  have d1 : decide (1048576 < (a1.size : Int)) = false := by simp; omega
  have d2 : decide (a0 < 1) = false := by simp; omega
  have d3 : decide (255 < a0) = false := by simp; omega
  have d4 : decide ((a1.size : Int) < 5) = false := by simp; omega
  have d5 : n ≤ a1.size - 5 := by omega
  have HN := Aside0.mk hn
  clear hn
  go_enter Try.func12, Try.ntmps12
  go_wp2_with fail
  go_quiet (fail)
  rw [bits_head _ _ _ _ r1 r2 r3 r4, HN.out]
  go_wp2_with fail
  rw [show (a1.extract 5 a1.size).extract n (a1.size - 5) = tailS a1 n from rfl]
  have hS := tailS_size a1 n h5n
  go_loopw [] (fun w' => ∃ pos : Nat, w' = (w.drewN nq).iter (tailS a1 n) pos ∧ Aside0 (∀ j (hj : j < (tailS a1 n).size), j < pos → (((tailS a1 n)[j]'hj).toNat : Int) = 0)) (fun w' => (tailS a1 n).size - w'.iterPos w.heap.size)
  case atStart => exact ⟨0, rfl, ⟨fun j _ h => absurd h (by omega)⟩⟩
  case round =>
    obtain ⟨pos, rfl, HZ⟩ := hrel
    by_cases hp : pos < (tailS a1 n).size
    · have hnx : ∀ ty, (Instr.next (.pointer (some ⟨w.heap.size, 0, none⟩)) true ty).run Try.prog ((w.drewN nq).iter (tailS a1 n) pos) = _ := fun ty => run_next_any (w.drewN nq) (tailS a1 n) pos ty hp
      by_cases hz : (((tailS a1 n)[pos]'hp).toNat : Int) = 0
      · rw [decode_zero _ _ hp hz] at hnx
        go_wp2
        go_roundw
        case rel => exact ⟨pos + 1, rfl, ⟨fun j hj hjp => by
          by_cases e : j = pos
          · subst e; exact hz
          · exact HZ.out j hj (by omega)⟩⟩
        case measure =>
          have e1 := World.iterPos_iter (w.drewN nq) (tailS a1 n) (pos + 1)
          have e2 := World.iterPos_iter (w.drewN nq) (tailS a1 n) pos
          simp at e1 e2 ⊢
          omega
      · have hd : (((Utf8.decode (tailS a1 n) pos).1 : Int) != 0) = true := bne_iff_ne.2 (decode_nz _ _ hp hz)
        have HA : Aside0 (allz a1 (5 + n) = false) := ⟨by
          cases e : allz a1 (5 + n) with
          | false => rfl
          | true => exact absurd (tail_zero a1 n h5n e pos hp) hz⟩
        go_wp2
        go_ret2
        obtain ⟨rfl, rfl⟩ := HR.out.2 HA.out
        exact ⟨rfl, (pw_below_drewN (Below.refl _ _) nq).alloc (Nat.le_refl _) _⟩
    · have hnx : ∀ ty, (Instr.next (.pointer (some ⟨w.heap.size, 0, none⟩)) true ty).run Try.prog ((w.drewN nq).iter (tailS a1 n) pos) = _ := fun ty => run_next_end (w.drewN nq) (tailS a1 n) pos ty hp
      have HA : Aside0 (allz a1 (5 + n) = true) := ⟨by
          cases e : allz a1 (5 + n) with
          | true => rfl
          | false =>
            obtain ⟨j, hj, hne⟩ := tail_nonzero a1 n h5n e
            exact absurd (HZ.out j hj (by omega)) hne⟩
      go_wp2
      go_ret2
      obtain ⟨rfl, rfl⟩ := HR.out.1 HA.out
      rw [← cut_twice a1 n h5n]
      exact ⟨rfl, (pw_below_drewN (Below.refl _ _) nq).alloc (Nat.le_refl _) _⟩

set_option maxHeartbeats 800000 in
set_option maxRecDepth 100000 in
theorem frame_Unpack.big (a0 : Int) (a1 : ByteArray) (w : World) (h1 : 1048576 < (a1.size : Int)) :
    Calls Try.prog 12 #[.int .i64 a0, .string a1] w fun e w' => e = .returned (.tuple #[.string ⟨#[]⟩, .int .i64 3]) ∧ Below w.heap.size w w' := by
  have d1 : decide (1048576 < (a1.size : Int)) = true := by simpa using h1
  go_enter Try.func12, Try.ntmps12
  go_wp2
  go_ret2
  exact ⟨rfl, by first | exact Below.refl _ _ | exact pw_below_drewN (Below.refl _ _) _⟩

set_option maxHeartbeats 800000 in
set_option maxRecDepth 100000 in
theorem frame_Unpack.low (a0 : Int) (a1 : ByteArray) (w : World) (h1 : (a1.size : Int) ≤ 1048576) (h2 : a0 < 1) :
    Calls Try.prog 12 #[.int .i64 a0, .string a1] w fun e w' => e = .returned (.tuple #[.string ⟨#[]⟩, .int .i64 92]) ∧ Below w.heap.size w w' := by
  have d1 : decide (1048576 < (a1.size : Int)) = false := by simp; omega
  have d2 : decide (a0 < 1) = true := by simp; omega
  go_enter Try.func12, Try.ntmps12
  go_wp2
  go_ret2
  exact ⟨rfl, by first | exact Below.refl _ _ | exact pw_below_drewN (Below.refl _ _) _⟩

set_option maxHeartbeats 800000 in
set_option maxRecDepth 100000 in
theorem frame_Unpack.high (a0 : Int) (a1 : ByteArray) (w : World) (h1 : (a1.size : Int) ≤ 1048576) (h2 : 255 < a0) :
    Calls Try.prog 12 #[.int .i64 a0, .string a1] w fun e w' => e = .returned (.tuple #[.string ⟨#[]⟩, .int .i64 92]) ∧ Below w.heap.size w w' := by
  have d1 : decide (1048576 < (a1.size : Int)) = false := by simp; omega
  have d2 : decide (a0 < 1) = false := by simp; omega
  have d3 : decide (255 < a0) = true := by simp; omega
  go_enter Try.func12, Try.ntmps12
  go_wp2
  go_ret2
  exact ⟨rfl, by first | exact Below.refl _ _ | exact pw_below_drewN (Below.refl _ _) _⟩

set_option maxHeartbeats 800000 in
set_option maxRecDepth 100000 in
theorem frame_Unpack.brief (a0 : Int) (a1 : ByteArray) (w : World) (h1 : (a1.size : Int) ≤ 1048576) (h2 : 1 ≤ a0) (h3 : a0 ≤ 255) (h4 : (a1.size : Int) < 5) :
    Calls Try.prog 12 #[.int .i64 a0, .string a1] w fun e w' => e = .returned (.tuple #[.string ⟨#[]⟩, .int .i64 92]) ∧ Below w.heap.size w w' := by
  have d1 : decide (1048576 < (a1.size : Int)) = false := by simp; omega
  have d2 : decide (a0 < 1) = false := by simp; omega
  have d3 : decide (255 < a0) = false := by simp; omega
  have d4 : decide ((a1.size : Int) < 5) = true := by simp; omega
  go_enter Try.func12, Try.ntmps12
  go_wp2
  go_ret2
  exact ⟨rfl, by first | exact Below.refl _ _ | exact pw_below_drewN (Below.refl _ _) _⟩

set_option maxHeartbeats 800000 in
set_option maxRecDepth 100000 in
theorem frame_Unpack.other (a0 : Int) (a1 : ByteArray) (w : World) (h1 : (a1.size : Int) ≤ 1048576) (h2 : 1 ≤ a0) (h3 : a0 ≤ 255) (h4 : 5 ≤ (a1.size : Int)) (h5 : (bt a1 0 != a0) = true) :
    Calls Try.prog 12 #[.int .i64 a0, .string a1] w fun e w' => e = .returned (.tuple #[.string ⟨#[]⟩, .int .i64 92]) ∧ Below w.heap.size w w' := by
  have z0 : 0 < a1.size := by omega
  have p0 := nth a1 0 z0
  have r0 := bt_range a1 0
  have d1 : decide (1048576 < (a1.size : Int)) = false := by simp; omega
  have d2 : decide (a0 < 1) = false := by simp; omega
  have d3 : decide (255 < a0) = false := by simp; omega
  have d4 : decide ((a1.size : Int) < 5) = false := by simp; omega
  go_enter Try.func12, Try.ntmps12
  go_wp2
  go_ret2
  exact ⟨rfl, by first | exact Below.refl _ _ | exact pw_below_drewN (Below.refl _ _) _⟩

set_option maxHeartbeats 800000 in
set_option maxRecDepth 100000 in
theorem frame_Unpack.fits (a0 : Int) (a1 : ByteArray) (w : World) (n : Nat) (hn : 16777216 * bt a1 1 + 65536 * bt a1 2 + 256 * bt a1 3 + bt a1 4 = (n : Int)) (h5n : a1.size < 5 + n)
    (h1 : (a1.size : Int) ≤ 1048576) (h2 : 1 ≤ a0) (h3 : a0 ≤ 255) (h4 : 5 ≤ (a1.size : Int)) (h5 : (bt a1 0 != a0) = false) :
    Calls Try.prog 12 #[.int .i64 a0, .string a1] w fun e w' => e = .returned (.tuple #[.string ⟨#[]⟩, .int .i64 90]) ∧ Below w.heap.size w w' := by
  have z0 : 0 < a1.size := by omega
  have z1 : 1 < a1.size := by omega
  have z2 : 2 < a1.size := by omega
  have z3 : 3 < a1.size := by omega
  have z4 : 4 < a1.size := by omega
  have p0 := nth a1 0 z0
  have p1 := nth a1 1 z1
  have p2 := nth a1 2 z2
  have p3 := nth a1 3 z3
  have p4 := nth a1 4 z4
  have r0 := bt_range a1 0
  have r1 := bt_range a1 1
  have r2 := bt_range a1 2
  have r3 := bt_range a1 3
  have r4 := bt_range a1 4
  have d1 : decide (1048576 < (a1.size : Int)) = false := by simp; omega
  have d2 : decide (a0 < 1) = false := by simp; omega
  have d3 : decide (255 < a0) = false := by simp; omega
  have d4 : decide ((a1.size : Int) < 5) = false := by simp; omega
  have d5 : a1.size - 5 < n := by omega
  have HN := Aside0.mk hn
  clear hn
  go_enter Try.func12, Try.ntmps12
  go_wp2_with fail
  go_quiet (fail)
  rw [bits_head _ _ _ _ r1 r2 r3 r4, HN.out]
  go_wp2
  go_ret2
  exact ⟨rfl, pw_below_drewN (Below.refl _ _) _⟩

theorem frame_Unpack.calls (a0 : Int) (a1 : ByteArray) (r1 : ByteArray) (r2 : Int) (w : World) (h : frame_Unpack.f a0 a1 = some (r1, r2)) :
    Calls Try.prog 12 #[.int .i64 a0, .string a1] w fun e w' => e = .returned (.tuple #[.string r1, .int .i64 r2]) ∧ Below w.heap.size w w' := by
  unfold frame_Unpack.f at h
  by_cases h1 : (a1.size : Int) > 1048576
  · rw [if_pos h1] at h
    cases h
    exact frame_Unpack.big a0 a1 w h1
  rw [if_neg h1] at h
  by_cases h2 : a0 < 1 ∨ a0 > 255 ∨ (a1.size : Int) < 5 ∨ bt a1 0 ≠ a0
  · rw [if_pos h2] at h
    cases h
    by_cases c1 : a0 < 1
    · exact frame_Unpack.low a0 a1 w (by omega) c1
    by_cases c2 : 255 < a0
    · exact frame_Unpack.high a0 a1 w (by omega) c2
    by_cases c3 : (a1.size : Int) < 5
    · exact frame_Unpack.brief a0 a1 w (by omega) (by omega) (by omega) c3
    · exact frame_Unpack.other a0 a1 w (by omega) (by omega) (by omega) (by omega) (bne_iff_ne.2 (by omega))
  rw [if_neg h2] at h
  have r1' := bt_range a1 1
  have r2' := bt_range a1 2
  have r3' := bt_range a1 3
  have r4' := bt_range a1 4
  have h5 : (bt a1 0 != a0) = false := by simp; omega
  obtain ⟨n, hn⟩ : ∃ n : Nat, headN a1 = (n : Int) := ⟨_, (Int.toNat_of_nonneg (by unfold headN; omega)).symm⟩
  rw [hn] at h
  have hn' : 16777216 * bt a1 1 + 65536 * bt a1 2 + 256 * bt a1 3 + bt a1 4 = (n : Int) := hn
  by_cases h3 : (n : Int) > (a1.size : Int) - 5
  · rw [if_pos h3] at h
    cases h
    exact frame_Unpack.fits a0 a1 w n hn' (by omega) (by omega) (by omega) (by omega) (by omega) h5
  · rw [if_neg h3] at h
    refine frame_Unpack.loop a0 a1 w n hn' (by omega) (by omega) (by omega) (by omega) (by omega) h5 r1 r2 ⟨⟨fun hz => ?_, fun hz => ?_⟩⟩
    · rw [Int.toNat_natCast, if_pos hz] at h
      cases h
      exact ⟨rfl, rfl⟩
    · rw [Int.toNat_natCast, if_neg (by rw [hz]; decide)] at h
      cases h
      exact ⟨rfl, rfl⟩

def bits_Len.f (a0 : Int) : Option (Int) := if 0 ≤ a0 ∧ a0 ≤ 18446744073709551615 then some (Lib.bitLen a0.toNat : Int) else none
theorem bits_Len.calls (a0 : Int) (r : Int) (w : World) (h : bits_Len.f a0 = some r) :
    Calls Try.prog 28 #[.int .u64 a0] w fun e w' => e = .returned (.int .i64 r) ∧ Drawn0 w w' := by
  unfold bits_Len.f at h
  split at h
  · rename_i hc
    cases h
    refine (Try.bits_Len a0 w hc.1 hc.2).mono ?_
    rintro e w' ⟨rfl, rfl⟩
    exact ⟨rfl, Drawn0.refl _⟩
  · cases h

def zerosS (n : Nat) : ByteArray := ⟨(List.replicate n (0 : UInt8)).toArray⟩
theorem repeat_one : ∀ n, Lib.repeatL [(0 : UInt8)] n = List.replicate n 0
  | 0 => rfl
  | n + 1 => by rw [Lib.repeatL, repeat_one n]; rfl
theorem Repeat_zeros (c : Int) (w : World) (h0 : 0 ≤ c) (h : c ≤ 1048576) :
    Calls Try.prog 27 #[.string ⟨#[0]⟩, .int .i64 c] w fun e w' => e = .returned (.string (zerosS c.toNat)) ∧ Below w.heap.size w w' := by
  obtain ⟨n, rfl⟩ := Int.eq_ofNat_of_zero_le h0
  rw [Int.toNat_natCast]
  by_cases h0 : n = 0
  · subst h0
    refine (Try.strings_Repeat_zero _ w).mono ?_
    rintro e w' ⟨rfl, rfl⟩
    exact ⟨rfl, Below.refl _ _⟩
  by_cases h1 : n = 1
  · subst h1
    refine (Try.strings_Repeat_one _ w).mono ?_
    rintro e w' ⟨rfl, rfl⟩
    exact ⟨rfl, Below.refl _ _⟩
  refine (Try.strings_Repeat_main ⟨#[0]⟩ n w (by omega) (by omega) (by show 1 * n ≤ _; omega) (by decide)).mono ?_
  rintro e w' ⟨rfl, hb⟩
  refine ⟨?_, hb⟩
  show Ending.returned (.string ⟨(Lib.repeatL [0] n).toArray⟩) = _
  rw [repeat_one]
  rfl

theorem zerosS_size (n : Nat) : (zerosS n).size = n := by
  show (List.replicate n (0 : UInt8)).toArray.size = n
  simp
def hdL (k n : Int) : List Int := [k, n / 16777216, n / 65536, n / 256 % 256, n % 256]
def hdO (k n : Int) : Obj := .cells #[.int .u8 k, .int .u8 (n / 16777216), .int .u8 (n / 65536), .int .u8 (n / 256 % 256), .int .u8 (n % 256)] 47
theorem conv_at (k n : Int) (W : World) (b : Nat) (hc : ∀ i, i < 5 → W.cell? ⟨b, i, none⟩ = some (.int .u8 ((hdL k n).getD i 0))) :
    Sem.run Try.prog (convert 42 9 (.slice (some ⟨b, 0, none⟩) 5 5)) W = .ok (.string (strOfNums (hdL k n))) W :=
  run_convert_bytes_arg W 42 5 Try.underlying42 Try.underlying5 b 0 5 5 (hdL k n) rfl (fun i hi => by rw [Nat.zero_add]; exact hc i hi) 9 Try.underlying9
theorem cells_hd (k n : Int) (w : World) : ∀ i, i < 5 → (w.alloc (hdO k n)).cell? ⟨w.heap.size, i, none⟩ = some (.int .u8 ((hdL k n).getD i 0)) := by
  intro i hi
  have : i = 0 ∨ i = 1 ∨ i = 2 ∨ i = 3 ∨ i = 4 := by omega
  rcases this with rfl | rfl | rfl | rfl | rfl <;> simp [hdO, hdL, go_sem]
theorem conv_first (k n : Int) (w : World) : Sem.run Try.prog (convert 42 9 (.slice (some ⟨w.heap.size, 0, none⟩) 5 5)) (w.alloc (hdO k n)).drew = .ok (.string (strOfNums (hdL k n))) (w.alloc (hdO k n)).drew :=
  conv_at k n _ _ (cells_hd k n w)
theorem conv_then (k n : Int) (w w1 : World) (hb : Below (w.alloc (hdO k n)).drew.heap.size (w.alloc (hdO k n)).drew w1) :
    Sem.run Try.prog (convert 42 9 (.slice (some ⟨w.heap.size, 0, none⟩) 5 5)) w1 = .ok (.string (strOfNums (hdL k n))) w1 :=
  conv_at k n _ _ fun i hi => (hb.cell (p := ⟨w.heap.size, i, none⟩) (by show w.heap.size < (w.heap.push _).size; rw [Array.size_push]; omega)).trans (cells_hd k n w i hi)

set_option maxHeartbeats 800000 in
set_option maxRecDepth 100000 in
theorem frame_Pack.main (a0 : Int) (a1 : ByteArray) (a2 : Int) (w : World) (h1 : 1 ≤ a0) (h2 : a0 ≤ 255) (h3 : a2 ≤ 1048576) (h4 : (a1.size : Int) + 5 ≤ a2) (r : ByteArray) (HR : Aside0 (r = strOfNums (hdL a0 a1.size) ++ a1 ++ zerosS (a2 - (a1.size : Int) - 5).toNat)) :
    Calls Try.prog 23 #[.int .i64 a0, .string a1, .int .i64 a2] w fun e w' => e = .returned (.tuple #[.string r, .int .i64 0]) ∧ Below w.heap.size w w' := by
  have d2 : decide (a0 < 1) = false := by simp; omega
  have d3 : decide (255 < a0) = false := by simp; omega
  have d4 : decide (1048576 < a2) = false := by simp; omega
  have d5 : decide (a2 < (a1.size : Int) + 5) = false := by simp; omega
  go_enter Try.func23, Try.ntmps23
  have g1 : 0 ≤ a2 - (a1.size : Int) - 5 := by omega
  have g2 : a2 - (a1.size : Int) - 5 ≤ 1048576 := by omega
  have s1 : IntKind.i64.wrap (a2 - (a1.size : Int)) = a2 - (a1.size : Int) := IntWalk.i64_in _ (by omega)
  have s2 : IntKind.i64.wrap (a2 - (a1.size : Int) - 5) = a2 - (a1.size : Int) - 5 := IntWalk.i64_in _ (by omega)
  have hcv := conv_first a0 a1.size w
  unfold hdO at hcv
  have q1 : (strOfNums (hdL a0 a1.size)).size = 5 := strOfNums_size _
  have q2 : (zerosS (a2 - (a1.size : Int) - 5).toNat).size = (a2 - (a1.size : Int) - 5).toNat := zerosS_size _
  have q3 : ¬ 9223372036854775807 < (strOfNums (hdL a0 a1.size)).size + a1.size := by omega
  have q4 : ¬ 9223372036854775807 < (strOfNums (hdL a0 a1.size)).size + a1.size + (zerosS (a2 - (a1.size : Int) - 5).toNat).size := by omega
  clear q1 q2
  go_wp2_with fail
  go_region_with (first | (go_at_call 27; refine (Repeat_zeros _ _ g1 g2).mono ?_; rintro e w1 ⟨rfl, hb⟩; have hcv2 := conv_then a0 a1.size w w1 hb))
  all_goals
    go_wp2
    go_ret2
    rw [HR.out]
    exact ⟨rfl, below_then (below_drew (below_alloc (Below.refl _ _) _)) (by show w.heap.size ≤ (w.heap.push _).size; rw [Array.size_push]; omega) hb⟩

set_option maxHeartbeats 800000 in
set_option maxRecDepth 100000 in
theorem frame_Pack.low (a0 : Int) (a1 : ByteArray) (a2 : Int) (w : World) (h1 : a0 < 1) :
    Calls Try.prog 23 #[.int .i64 a0, .string a1, .int .i64 a2] w fun e w' => e = .returned (.tuple #[.string ⟨#[]⟩, .int .i64 92]) ∧ Below w.heap.size w w' := by
  have d2 : decide (a0 < 1) = true := by simp; omega
  go_enter Try.func23, Try.ntmps23
  go_wp2
  go_ret2
  exact ⟨rfl, Below.refl _ _⟩

set_option maxHeartbeats 800000 in
set_option maxRecDepth 100000 in
theorem frame_Pack.high (a0 : Int) (a1 : ByteArray) (a2 : Int) (w : World) (h1 : 255 < a0) :
    Calls Try.prog 23 #[.int .i64 a0, .string a1, .int .i64 a2] w fun e w' => e = .returned (.tuple #[.string ⟨#[]⟩, .int .i64 92]) ∧ Below w.heap.size w w' := by
  have d2 : decide (a0 < 1) = false := by simp; omega
  have d3 : decide (255 < a0) = true := by simp; omega
  go_enter Try.func23, Try.ntmps23
  go_wp2
  go_ret2
  exact ⟨rfl, Below.refl _ _⟩

set_option maxHeartbeats 800000 in
set_option maxRecDepth 100000 in
theorem frame_Pack.big (a0 : Int) (a1 : ByteArray) (a2 : Int) (w : World) (h1 : 1 ≤ a0) (h2 : a0 ≤ 255) (h3 : 1048576 < a2) :
    Calls Try.prog 23 #[.int .i64 a0, .string a1, .int .i64 a2] w fun e w' => e = .returned (.tuple #[.string ⟨#[]⟩, .int .i64 3]) ∧ Below w.heap.size w w' := by
  have d2 : decide (a0 < 1) = false := by simp; omega
  have d3 : decide (255 < a0) = false := by simp; omega
  have d4 : decide (1048576 < a2) = true := by simp; omega
  go_enter Try.func23, Try.ntmps23
  go_wp2
  go_ret2
  exact ⟨rfl, Below.refl _ _⟩

set_option maxHeartbeats 800000 in
set_option maxRecDepth 100000 in
theorem frame_Pack.fits (a0 : Int) (a1 : ByteArray) (a2 : Int) (w : World) (h1 : 1 ≤ a0) (h2 : a0 ≤ 255) (h3 : a2 ≤ 1048576) (h4 : a2 < (a1.size : Int) + 5) (h5 : (a1.size : Int) ≤ 140737488351232) :
    Calls Try.prog 23 #[.int .i64 a0, .string a1, .int .i64 a2] w fun e w' => e = .returned (.tuple #[.string ⟨#[]⟩, .int .i64 90]) ∧ Below w.heap.size w w' := by
  have d2 : decide (a0 < 1) = false := by simp; omega
  have d3 : decide (255 < a0) = false := by simp; omega
  have d4 : decide (1048576 < a2) = false := by simp; omega
  have d5 : decide (a2 < (a1.size : Int) + 5) = true := by simp; omega
  go_enter Try.func23, Try.ntmps23
  go_wp2
  go_ret2
  exact ⟨rfl, Below.refl _ _⟩

def frame_Pack.f (a0 : Int) (a1 : ByteArray) (a2 : Int) : Option (ByteArray × Int) :=
  if a0 < 1 ∨ 255 < a0 then some ((⟨#[]⟩ : ByteArray), 92)
  else if 1048576 < a2 then some ((⟨#[]⟩ : ByteArray), 3)
  else if (a1.size : Int) ≤ 140737488351232 then
    if a2 < (a1.size : Int) + 5 then some ((⟨#[]⟩ : ByteArray), 90)
    else some (strOfNums (hdL a0 a1.size) ++ a1 ++ zerosS (a2 - (a1.size : Int) - 5).toNat, 0)
  else none
theorem frame_Pack.calls (a0 : Int) (a1 : ByteArray) (a2 : Int) (r1 : ByteArray) (r2 : Int) (w : World) (h : frame_Pack.f a0 a1 a2 = some (r1, r2)) :
    Calls Try.prog 23 #[.int .i64 a0, .string a1, .int .i64 a2] w fun e w' => e = .returned (.tuple #[.string r1, .int .i64 r2]) ∧ Below w.heap.size w w' := by
  unfold frame_Pack.f at h
  by_cases h1 : a0 < 1 ∨ 255 < a0
  · rw [if_pos h1] at h
    cases h
    by_cases c1 : a0 < 1
    · exact frame_Pack.low a0 a1 a2 w c1
    · exact frame_Pack.high a0 a1 a2 w (by omega)
  rw [if_neg h1] at h
  by_cases h2 : 1048576 < a2
  · rw [if_pos h2] at h
    cases h
    exact frame_Pack.big a0 a1 a2 w (by omega) (by omega) h2
  rw [if_neg h2] at h
  by_cases h3 : (a1.size : Int) ≤ 140737488351232
  · rw [if_pos h3] at h
    by_cases h4 : a2 < (a1.size : Int) + 5
    · rw [if_pos h4] at h
      cases h
      exact frame_Pack.fits a0 a1 a2 w (by omega) (by omega) (by omega) h4 h3
    · rw [if_neg h4] at h
      cases h
      exact frame_Pack.main a0 a1 a2 w (by omega) (by omega) (by omega) (by omega) _ ⟨rfl⟩
  · rw [if_neg h3] at h
    cases h
end Go.Proofs.Ytaiieopllffljaa.G
