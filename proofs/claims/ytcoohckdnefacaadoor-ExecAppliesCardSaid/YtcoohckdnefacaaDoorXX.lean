/- exec: what marked writes, plainly -/
import Derived.Test.YtcoohckdnefacaaDoorXW
namespace Go.Proofs.YtcoohckdnefacaaDoor.S
open Go.RowKit
set_option linter.unusedVariables false
set_option linter.unusedSimpArgs false
set_option maxRecDepth 100000
set_option maxHeartbeats 4000000
set_option synthInstance.maxHeartbeats 400000
set_option synthInstance.maxSize 4000
attribute [local irreducible] wpList Code.wp Exit.then Exit.inBlock stillR bodyPost hR J Back Mid
/-- The count, that may wrap. -/
def cnt : Nat → Int
  | 0 => 0
  | k + 1 => IntKind.i64.wrap (cnt k + 1)
theorem cnt_range : ∀ k, -9223372036854775808 ≤ cnt k ∧ cnt k ≤ 9223372036854775807
  | 0 => by unfold cnt; omega
  | k + 1 => wrap_range _
def nmS (q : Nat) : ByteArray := ⟨#[110, 97, 109, 101, 32]⟩ ++ itoaB (cnt q)
def rsS (i : Nat) : ByteArray := ⟨#[114, 101, 115, 117, 108, 116, 32]⟩ ++ itoaB (i : Int)
def ctS (i : Nat) : ByteArray := ⟨#[99, 111, 110, 116, 101, 110, 116, 32]⟩ ++ itoaB (i : Int)
def mkN (q n : Nat) : List ByteArray := (List.range n).map fun j => nmS (q + j + 1)
theorem mkN_len (q n : Nat) : (mkN q n).length = n := by simp [mkN]
theorem mkN_get {q n j : Nat} (h : j < n) : (mkN q n)[j]? = some (nmS (q + j + 1)) := by simp [mkN, h]
/-- Names written up to a place. -/
def upN (q j : Nat) (xs : List ByteArray) : List ByteArray := mkN q j ++ xs.drop j
theorem upN_len {q j : Nat} {xs : List ByteArray} (h : j ≤ xs.length) : (upN q j xs).length = xs.length := by unfold upN; rw [List.length_append, mkN_len, List.length_drop]; omega
theorem upN_set {q j : Nat} {xs : List ByteArray} (h : j < xs.length) : (upN q j xs).set j (nmS (q + j + 1)) = upN q (j + 1) xs := by
  unfold upN
  rw [List.set_append_right _ _ (by rw [mkN_len]; exact Nat.le_refl _), mkN_len, Nat.sub_self, List.drop_eq_getElem_cons h, List.set_cons_zero]
  unfold mkN
  rw [List.range_succ, List.map_append, List.append_assoc]
  rfl
theorem upN_all (q : Nat) (xs : List ByteArray) : upN q xs.length xs = mkN q xs.length := by unfold upN; simp
def mkRes (q i : Nat) (r : Res) : Res := ⟨r.code, rsS i, r.n, ⟨r.names.A, r.names.c, mkN q r.names.xs.length⟩, r.kind, r.size⟩
def mkL : Nat → Nat → List Res → List Res
  | _, _, [] => []
  | q, i, r :: l => mkRes q i r :: mkL (q + r.names.xs.length) (i + 1) l
def offR (l : List Res) : Nat := (l.map (·.names.xs.length)).sum
theorem mkL_len : ∀ (q i : Nat) (l : List Res), (mkL q i l).length = l.length
  | _, _, [] => rfl
  | q, i, r :: l => by show (mkL _ _ l).length + 1 = l.length + 1; rw [mkL_len]
theorem mkL_snoc : ∀ (q i : Nat) (l : List Res) (x : Res), mkL q i (l ++ [x]) = mkL q i l ++ [mkRes (q + offR l) (i + l.length) x]
  | q, i, [], x => rfl
  | q, i, r :: l, x => by
    show mkRes q i r :: mkL _ _ (l ++ [x]) = mkRes q i r :: (mkL _ _ l ++ _)
    rw [mkL_snoc]
    congr 3
    congr 1
    · show q + r.names.xs.length + offR l = q + offR (r :: l)
      unfold offR
      simp; omega
    · show i + 1 + l.length = i + (l.length + 1); omega
theorem offR_mkL : ∀ (q i : Nat) (l : List Res), offR (mkL q i l) = offR l
  | _, _, [] => rfl
  | q, i, r :: l => by
    have := offR_mkL (q + r.names.xs.length) (i + 1) l
    unfold offR at *
    show (mkN q r.names.xs.length).length + ((mkL _ _ l).map _).sum = r.names.xs.length + (l.map _).sum
    rw [mkN_len, this]
theorem mkL_take : ∀ (q i : Nat) (l : List Res) (k : Nat), (mkL q i l).take k = mkL q i (l.take k)
  | q, i, [], k => by simp [mkL]
  | q, i, r :: l, 0 => by simp [mkL]
  | q, i, r :: l, k + 1 => by
    show (mkRes q i r :: mkL _ _ l).take (k + 1) = mkL q i (r :: l.take k)
    rw [List.take_succ_cons, mkL_take]
    rfl
theorem mkL_get : ∀ (q i : Nat) (l : List Res) (k : Nat) (x : Res), (mkL q i l)[k]? = some x → x.data = rsS (i + k) ∧ x.names.xs = mkN (q + offR (l.take k)) x.names.xs.length ∧ ∃ r ∈ l, x.names.xs.length = r.names.xs.length
  | q, i, [], k, x, h => by simp [mkL] at h
  | q, i, r :: l, 0, x, h => by
    have h' : some (mkRes q i r) = some x := h
    cases h'
    refine ⟨rfl, ?_, r, List.mem_cons_self, ?_⟩
    · show mkN q r.names.xs.length = mkN (q + 0) (mkN q r.names.xs.length).length
      rw [mkN_len]
      rfl
    · exact mkN_len _ _
  | q, i, r :: l, k + 1, x, h => by
    obtain ⟨h1, h2, r', h3, h4⟩ := mkL_get (q + r.names.xs.length) (i + 1) l k x h
    refine ⟨by rw [h1]; congr 1; omega, ?_, r', List.mem_cons_of_mem _ h3, h4⟩
    rw [show q + offR ((r :: l).take (k + 1)) = q + r.names.xs.length + offR (l.take k) by unfold offR; rw [List.take_succ_cons]; simp; omega]
    exact h2
/-- Results written up to a place. -/
def upR (i : Nat) (l : List Res) : List Res := mkL 0 0 (l.take i) ++ l.drop i
theorem upR_len {i : Nat} {l : List Res} : (upR i l).length = l.length := by unfold upR; rw [List.length_append, mkL_len, List.length_take, List.length_drop]; omega
theorem upR_get {i : Nat} {l : List Res} {x : Res} (h : l[i]? = some x) : (upR i l)[i]? = some x := by
  have hi := (List.getElem?_eq_some_iff.1 h).1
  unfold upR
  rw [List.getElem?_append_right (by rw [mkL_len, List.length_take]; omega), mkL_len, List.length_take, List.getElem?_drop, show i + (i - min i l.length) = i by omega]
  exact h
theorem upR_set {i : Nat} {l : List Res} {x : Res} (h : l[i]? = some x) : (upR i l).set i (mkRes (offR (l.take i)) i x) = upR (i + 1) l := by
  obtain ⟨hi, hx⟩ := List.getElem?_eq_some_iff.1 h
  have hl : (mkL 0 0 (l.take i)).length = i := by rw [mkL_len, List.length_take]; omega
  unfold upR
  rw [List.set_append_right _ _ (by omega), hl, Nat.sub_self, List.drop_eq_getElem_cons hi, List.set_cons_zero, List.take_add_one, h]
  show _ = mkL 0 0 (l.take i ++ [x]) ++ _
  rw [mkL_snoc, List.append_assoc, List.length_take, show 0 + min i l.length = i by omega, Nat.zero_add]
  rfl
theorem flat_set {α : Type} {f : α → List Value} {y y' : α} (h : f y = f y') : ∀ (l : List α) (i : Nat), (l.set i y).flatMap f = (l.set i y').flatMap f
  | [], i => by simp
  | a :: l, 0 => by simp [h]
  | a :: l, i + 1 => by simp [flat_set h l i]
theorem own_congr {α : Type} {E : Enc α} {A : Option Addr} {c : Nat} {xs ys : List α} {L : List Hp} (h1 : xs.length = ys.length) (h2 : xs.flatMap E.cells = ys.flatMap E.cells) : LE (own E A c xs :: L) (own E A c ys :: L) := LE.head fun h hh => by
  rcases own_iff.1 hh with ⟨rfl, rfl, rfl, rfl⟩ | ⟨b, o, sp, rfl, hc, hsp, hv, hcs⟩
  · have : ys = [] := List.length_eq_zero_iff.1 h1.symm
    exact own_iff.2 (.inl ⟨rfl, this, rfl, rfl⟩)
  · exact own_iff.2 (.inr ⟨b, o, sp, rfl, by omega, by rw [← h1]; exact hsp, hv, by rw [← h2]; exact hcs⟩)
theorem own_setc {α : Type} {E : Enc α} {A : Option Addr} {c : Nat} {l : List α} {i : Nat} {y y' : α} {L : List Hp} (h : E.cells y = E.cells y') : LE (own E A c (l.set i y) :: L) (own E A c (l.set i y') :: L) := own_congr (by simp) (flat_set h l i)
/-- Contents written up to a place. -/
def upC (i : Nat) (l : List ByteArray) : List ByteArray := (List.range i).map ctS ++ l.drop i
theorem upC_len {i : Nat} {l : List ByteArray} (h : i ≤ l.length) : (upC i l).length = l.length := by unfold upC; simp; omega
theorem upC_set {i : Nat} {l : List ByteArray} (h : i < l.length) : (upC i l).set i (ctS i) = upC (i + 1) l := by
  unfold upC
  rw [List.set_append_right _ _ (by simp), List.length_map, List.length_range, Nat.sub_self, List.drop_eq_getElem_cons h, List.set_cons_zero, List.range_succ, List.map_append, List.append_assoc]
  rfl
theorem upC_all (l : List ByteArray) : upC l.length l = (List.range l.length).map ctS := by unfold upC; simp
theorem longer_keep (A : Option Addr) (c : Nat) (xs : List ByteArray) (m : ByteArray) (hl : xs.length * 16 ≤ 140737488355328) : Spec Tryd.prog 22 [.slice A xs.length c, .string m] [own encS A c xs] (fun _ => True) (fun v L => ∃ B d, v = .slice B (xs.length + 64) d ∧ L = [own encS A c xs]) :=
  (longer_spec A c xs m hl).weak fun v L ⟨B, d, hv, h⟩ => by
    refine ⟨_, ⟨B, d, hv, rfl⟩, ?_⟩
    rcases h with ⟨rfl, rfl, hf, rfl⟩ | rfl
    · refine LE.trans (own_cut (n := xs.length) (c' := d) (by rw [List.length_append]; omega) (by omega) (Nat.le_refl _)) ?_
      rw [List.take_left]
      exact LE.refl _
    · exact (LE.sub (by (repeat' (first | exact Pick.here | apply Pick.there | apply Picks.cons | exact Picks.nil))))
theorem longer_full (A : Option Addr) (xs : List ByteArray) (m : ByteArray) (hl : xs.length * 16 ≤ 140737488355328) : Spec Tryd.prog 22 [.slice A xs.length xs.length, .string m] [own encS A xs.length xs] (fun _ => True) (fun v L => ∃ B d, v = .slice B (xs.length + 64) d ∧ L = [own encS A xs.length xs, own encS B d (xs ++ rep 64 m)]) :=
  (longer_spec A xs.length xs m hl).mono fun v L ⟨B, d, hv, h⟩ => by
    rcases h with ⟨rfl, rfl, hf, rfl⟩ | rfl
    · omega
    · exact ⟨B, d, hv, rfl⟩
end Go.Proofs.YtcoohckdnefacaaDoor.S
