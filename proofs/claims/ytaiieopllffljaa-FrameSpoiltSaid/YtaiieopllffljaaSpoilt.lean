/- The walk of casketlaw9.FrameSpoilt, by hand: the bytes of a frame, one of them turned. -/
import Derived.Test.YtaiieopllffljaaKitC
import Derived.Laws.BitsAllLaws
import Derived.Deep.RegionWith
namespace Go.Proofs.Ytaiieopllffljaa.Spoilt
open Go.RowKit Go.Proofs.Ytaiieopllffljaa.PAll Go.Proofs.Ytaiieopllffljaa.G Go.Proofs.Ytaiieopllffljaa.Kit Go.Proofs.YtaiieopllffljaaW.PrintWords Go.Proofs.YtaiieopllffljaaW.PrintLast Go.Proofs.YtaiieopllffljaaW.PrintMore
set_option linter.unusedVariables false
set_option linter.unusedSimpArgs false

theorem list_ne (a b : ByteArray) (h : a ≠ b) : (a.toList == b.toList) = false := by
  rw [ByteArray.toList_eq, ByteArray.toList_eq]
  exact beq_eq_false_iff_ne.2 fun hc => h (ByteArray.ext (Array.ext' hc))
/-- The frame's bytes, one of them turned. -/
def turned (s : ByteArray) (i : Nat) (v : Int) : ByteArray := strOfNums ((bytesOf s).set i v)

theorem cells_of (W : World) (s : ByteArray) (j : Nat) (hj : j < s.size) : (Lib.bytesWorld W 5 s).cell? ⟨W.heap.size, j, none⟩ = some (.int .u8 (bt s j)) := by
  rw [Lib.bytesWorld_cell W 5 s j hj, bt_list, Int.toNat_natCast]
theorem free_of (W : World) (s : ByteArray) (j : Nat) (hj : j < s.size) : (Lib.bytesWorld W 5 s).frozen? ⟨W.heap.size, j, none⟩ = false := by
  have := Lib.bytesWorld_at_new W 5 s
  have hl : s.size ≤ (Lib.bytesCells W 5 s).size := by
    simp [Lib.bytesCells]
  simp [World.frozen?, this]
  omega

set_option maxHeartbeats 1000000 in
set_option maxRecDepth 100000 in
theorem walk_long (a0 : ByteArray) (a1 a2 a3 : Int) (w : World) (h : (a0.size : Int) > 100000) :
    Calls Try.prog 9 #[.string a0, .int .i64 a1, .int .i64 a2, .int .i64 a3] w fun e w' => e = .returned (.bool true) ∧ Below w.heap.size w w' := by
  have d1 : decide (100000 < (a0.size : Int)) = true := by simpa using h
  go_enter Try.func9, Try.ntmps9
  go_wp2
  go_ret
  exact ⟨rfl, Below.refl _ _⟩

theorem conv_turned (W : World) (s : ByteArray) (i k cap : Nat) (x : Int) (hi : i < s.size) :
    Sem.run Try.prog (convert 42 9 (.slice (some ⟨W.heap.size, 0, none⟩) s.size cap)) (((Lib.bytesWorld W 5 s).drewN k).setCell ⟨W.heap.size, i, none⟩ (.int .u8 x)) = .ok (.string (turned s i x)) (((Lib.bytesWorld W 5 s).drewN k).setCell ⟨W.heap.size, i, none⟩ (.int .u8 x)) := by
  refine run_convert_bytes_arg _ 42 5 Try.underlying42 Try.underlying5 W.heap.size 0 s.size cap ((bytesOf s).set i x) (by simp [bytesOf_length]) (fun j hj => ?_) 9 Try.underlying9
  rw [Nat.zero_add]
  by_cases e : j = i
  · subst e
    rw [World.cell?_setCell_same (w := (Lib.bytesWorld W 5 s).drewN k) (u := .int .u8 (bt s j)) (h := cells_of W s j hi)]
    simp [List.getD_eq_getElem?_getD, bytesOf_length, hi]
  · rw [World.cell?_setCell_other (w := (Lib.bytesWorld W 5 s).drewN k) (h := fun (h : (⟨W.heap.size, i, none⟩ : Addr) = ⟨W.heap.size, j, none⟩) => e (by injection h with _ h2; exact h2.symm))]
    refine (cells_of W s j hj).trans ?_
    rw [← rd_bytesOf]
    unfold rd
    rw [Int.toNat_natCast, List.getD_eq_getElem?_getD, List.getD_eq_getElem?_getD, List.getElem?_set_ne (fun h => e h.symm)]

set_option maxHeartbeats 1000000 in
set_option maxRecDepth 100000 in
theorem walk_main (a0 : ByteArray) (a1 a2 a3 n i v : Int) (s : ByteArray) (c : ByteArray) (f : Int) (w : World) (h : (a0.size : Int) ≤ 100000)
    (hn : casketlaw9_clipped.f a1 ((a0.size : Int) + 5) 200000 = some n) (hn1 : (a0.size : Int) + 5 ≤ n) (hn2 : n ≤ 200000)
    (hs : frame_Pack.f 1 a0 n = some (s, 0)) (hz : (s.size : Int) = n)
    (hi : casketlaw9_clipped.f a2 0 (n - 1) = some i) (hi1 : 0 ≤ i) (hi2 : i ≤ n - 1)
    (hv : casketlaw9_clipped.f a3 1 255 = some v) (hv1 : 1 ≤ v) (hv2 : v ≤ 255)
    (hu : frame_Unpack.f 1 (turned s i.toNat (bits .xor .u8 (bt s i) v)) = some (c, f)) (hc : f ≠ 0 ∨ (f = 0 ∧ c ≠ a0)) :
    Calls Try.prog 9 #[.string a0, .int .i64 a1, .int .i64 a2, .int .i64 a3] w fun e w' => e = .returned (.bool true) ∧ Below w.heap.size w w' := by
  have d1 : decide (100000 < (a0.size : Int)) = false := by simp; omega
  have hcv := fun W => print_bytes (P := Try.prog) 9 42 5 Try.underlying9 Try.underlying42 Try.underlying5 s W
  have d2 : ((s.size : Int) != n) = false := by rw [hz]; simp
  have HZ := Aside0.mk hz
  clear hz
  go_enter Try.func9, Try.ntmps9
  go_wp2_with fail
  refine (casketlaw9_clipped.calls _ _ _ _ _ hn).mono ?_
  rintro e w1 ⟨rfl, ⟨nd, rfl⟩⟩
  go_wp2_with fail
  refine (frame_Pack.calls _ _ _ _ _ _ hs).mono ?_
  rintro e w2 ⟨rfl, hb2⟩
  go_wp2_with fail
  refine (casketlaw9_num.calls _ _ _ rfl).mono ?_
  rintro e w3 ⟨rfl, ⟨nd3, rfl⟩⟩
  go_wp2_with fail
  refine (casketlaw9_clipped.calls _ _ _ _ _ hi).mono ?_
  rintro e w4 ⟨rfl, ⟨nd4, rfl⟩⟩
  go_wp2_with fail
  have hlt : i.toNat < s.size := by have := HZ.out; omega
  have hcl : (Lib.bytesWorld (w2.drewN (nd3 + nd4)) 5 s).cell? ⟨w2.heap.size, i.toNat, none⟩ = some (.int .u8 (bt s (i.toNat : Int))) := cells_of (w2.drewN (nd3 + nd4)) s i.toNat hlt
  rw [Int.toNat_of_nonneg hi1] at hcl
  have hfr : (Lib.bytesWorld (w2.drewN (nd3 + nd4)) 5 s).frozen? ⟨w2.heap.size, i.toNat, none⟩ = false := free_of (w2.drewN (nd3 + nd4)) s i.toNat hlt
  have hlt2 : i < (s.size : Int) := by have := HZ.out; omega
  have hvm : v % 256 = v := by omega
  have hcv2 : ∀ (k : Nat) (x : Int), Sem.run Try.prog (convert 42 9 (.slice (some ⟨w2.heap.size, 0, none⟩) s.size (grownCap (w2.drewN (nd3 + nd4)) s.size 0 5))) (((Lib.bytesWorld (w2.drewN (nd3 + nd4)) 5 s).drewN k).setCell ⟨w2.heap.size, i.toNat, none⟩ (.int .u8 x)) = .ok (.string (turned s i.toNat x)) (((Lib.bytesWorld (w2.drewN (nd3 + nd4)) 5 s).drewN k).setCell ⟨w2.heap.size, i.toNat, none⟩ (.int .u8 x)) :=
    fun k x => conv_turned (w2.drewN (nd3 + nd4)) s i.toNat k _ x hlt
  have HC := Aside0.mk hc
  clear hcv hc
  go_region_with (first | (go_at_call 19; refine (casketlaw9_clipped.calls _ _ _ _ _ hv).mono ?_; rintro e w5 ⟨rfl, ⟨nd5, rfl⟩⟩))
  all_goals
    go_wp2_with fail
    refine (frame_Unpack.calls _ _ _ _ _ hu).mono ?_
    rintro e w6 ⟨rfl, hb6⟩
    go_wp2_with fail
    refine (casketlaw9_num.calls _ _ _ rfl).mono ?_
    rintro e w7 ⟨rfl, ⟨nd7, rfl⟩⟩
    have B1 : Below w.heap.size w w2 := below_then (pw_below_drewN (Below.refl _ _) nd) (Nat.le_refl _) hb2
    have B3 := bytes_below (pw_below_drewN B1 (nd3 + nd4)) B1.size 5 s
    have B5 := (pw_below_drewN B3 (1 + nd5)).setCell (p := ⟨w2.heap.size, i.toNat, none⟩) B1.size (.int .u8 (bits BinOp.xor IntKind.u8 (bt s i) v))
    have B7 := Aside0.mk (pw_below_drewN (below_then B5 B5.size hb6) nd7)
    clear B1 B3 B5 hb2 hb6
    rcases HC.out with hf | ⟨rfl, hcn⟩
    · have hf' : (f != 0) = true := bne_iff_ne.2 hf
      go_wp2_with fail
      go_ret
      exact ⟨rfl, B7.out⟩
    · have hcn' : (c.toList == a0.toList) = false := by rw [list_ne c a0 hcn]
      go_wp2_with fail
      go_ret
      exact ⟨rfl, B7.out⟩
end Go.Proofs.Ytaiieopllffljaa.Spoilt
