/- pool: the bench; calls of what may be nil; the calls over its places -/
import Derived.Test.YtjmicpkinflofaaDoorQG
namespace Go.Proofs.YtjmicpkinflofaaDoor.S
open Go.RowKit
set_option linter.unusedVariables false
set_option linter.unusedSimpArgs false
set_option maxRecDepth 100000
set_option maxHeartbeats 4000000
/-! ### What is at a place -/
abbrev Pc := Option Addr × Option Addr × Option Pl
def placeL (p : Pc) : List Hp := [optR poolR p.1 p.2.2, optR refR p.2.1 p.2.2]
def placeR (p : Pc) : Hp := stars (placeL p)
theorem LE.placeOut {A R : Option Addr} {s : Option Pl} {M : List Hp} : LE (placeR (A, R, s) :: M) (optR poolR A s :: optR refR R s :: M) := LE.open1 (M := [optR poolR A s, optR refR R s]) fun h hh => hh
theorem LE.placeIn {A R : Option Addr} {s : Option Pl} {M : List Hp} : LE (optR poolR A s :: optR refR R s :: M) (placeR (A, R, s) :: M) := LE.shut1 (M := [optR poolR A s, optR refR R s]) fun h hh => hh
attribute [irreducible] placeR
def benchV (os rs : List (Option Addr)) (bk mk : Value) : List Value := os.map Value.pointer ++ rs.map Value.pointer ++ [bk, mk]
theorem len3 {α : Type} {l : List α} (h : l.length = 3) : ∃ a b c, l = [a, b, c] := by
  match l, h with
  | [a, b, c], _ => exact ⟨a, b, c, rfl⟩
class L3 (l : List (Option Addr)) : Prop where out : l.length = 3
theorem benchV_lit {a b c d e f : Option Addr} {bk mk : Value} : benchV [a, b, c] [d, e, f] bk mk = [.pointer a, .pointer b, .pointer c, .pointer d, .pointer e, .pointer f, bk, mk] := rfl
section
variable {os rs : List (Option Addr)} {bk mk bk' mk' : Value} {k : Nat} {X Y : Option Addr}
theorem bench_len (h1 : os.length = 3) (h2 : rs.length = 3) : (benchV os rs bk mk).length = 8 := by unfold benchV; simp [h1, h2]
instance nthV_own [h1 : L3 os] [h : At os k X] : NthV (benchV os rs bk mk) k (.pointer X) := ⟨by
  have hk := (List.getElem?_eq_some_iff.1 h.out).1
  unfold benchV
  rw [List.append_assoc, List.getElem?_append_left (by rw [List.length_map]; exact hk), List.getElem?_map, h.out]
  rfl⟩
instance nthV_ref [h1 : L3 os] [h : At rs k Y] : NthV (benchV os rs bk mk) (3 + k) (.pointer Y) := ⟨by
  have hk := (List.getElem?_eq_some_iff.1 h.out).1
  unfold benchV
  have := h1.out
  rw [List.append_assoc, List.getElem?_append_right (by rw [List.length_map]; omega), List.length_map, this, Nat.add_sub_cancel_left, List.getElem?_append_left (by rw [List.length_map]; exact hk), List.getElem?_map, h.out]
  rfl⟩
instance nthV_bk [h1 : L3 os] [h2 : L3 rs] : NthV (benchV os rs bk mk) 6 bk := ⟨by
  obtain ⟨a, b, c, rfl⟩ := len3 h1.out
  obtain ⟨d, e, f, rfl⟩ := len3 h2.out
  rfl⟩
instance nthV_mk [h1 : L3 os] [h2 : L3 rs] : NthV (benchV os rs bk mk) 7 mk := ⟨by
  obtain ⟨a, b, c, rfl⟩ := len3 h1.out
  obtain ⟨d, e, f, rfl⟩ := len3 h2.out
  rfl⟩
instance setV_own [h1 : L3 os] [h2 : L3 rs] [hk : Ft (k < 3)] : SetV (benchV os rs bk mk) k [.pointer X] (benchV (os.set k X) rs bk mk) := ⟨by
  obtain ⟨a, b, c, rfl⟩ := len3 h1.out
  obtain ⟨d, e, f, rfl⟩ := len3 h2.out
  have := hk.out
  obtain rfl | rfl | rfl : k = 0 ∨ k = 1 ∨ k = 2 := by omega
  all_goals exact ⟨by rw [benchV_lit]; simp, rfl⟩⟩
instance setV_ref [h1 : L3 os] [h2 : L3 rs] [hk : Ft (k < 3)] : SetV (benchV os rs bk mk) (3 + k) [.pointer Y] (benchV os (rs.set k Y) bk mk) := ⟨by
  obtain ⟨a, b, c, rfl⟩ := len3 h1.out
  obtain ⟨d, e, f, rfl⟩ := len3 h2.out
  have := hk.out
  obtain rfl | rfl | rfl : k = 0 ∨ k = 1 ∨ k = 2 := by omega
  all_goals exact ⟨by rw [benchV_lit]; simp, rfl⟩⟩
instance l3_set [h1 : L3 os] : L3 (os.set k X) := ⟨by rw [List.length_set]; exact h1.out⟩
end
attribute [irreducible] benchV
/-! ### Calls of what may be nil -/
theorem spec_opt {P : Program} {f : FuncId} {args : List Value} {R : Fr → Prop} {Q : Nat → Pl → Hp} {A : Option Addr} {s : Option Pl} {v0 : Value} {v1 : Pl → Value} {nx : Pl → Pl}
    (h0 : Spec P f (.pointer none :: args) [] R (fun v L => v = v0 ∧ L = [])) (h1 : ∀ b σ, s = some σ → Spec P f (ptr b 0 :: args) [Q b σ] R (fun v L => v = v1 σ ∧ L = [Q b (nx σ)])) :
    Spec P f (.pointer A :: args) [optR Q A s] R (fun v L => v = (match s with | none => v0 | some σ => v1 σ) ∧ L = [optR Q A (s.map nx)]) := fun F w hR hs => by
  obtain ⟨h, ⟨a1, a2, hd, rfl, ho, ha2⟩, rest⟩ := hs
  unfold optR at ho
  rcases ho with ⟨rfl, rfl, rfl⟩ | ⟨b, σ, rfl, rfl, hq⟩
  · refine (h0 F w hR ⟨Heap.un Heap.emp a2, by rw [Heap.emp_un]; exact ha2, rest⟩).mono ?_
    rintro e w' ⟨v, L, rfl, ⟨rfl, rfl⟩, hk⟩
    exact ⟨_, _, rfl, ⟨rfl, rfl⟩, hk.le LE.optNone⟩
  · refine (h1 b σ rfl F w hR ⟨Heap.un a1 a2, ⟨a1, a2, hd, rfl, hq, ha2⟩, rest⟩).mono ?_
    rintro e w' ⟨v, L, rfl, ⟨rfl, rfl⟩, hk⟩
    exact ⟨_, _, rfl, ⟨rfl, rfl⟩, hk.le (LE.optSome .here)⟩
theorem opt_wf {A : Option Addr} {s : Option Pl} {h : Heap} (hh : optR poolR A s h) : ∀ σ, s = some σ → Wf σ := by
  unfold optR at hh
  rcases hh with ⟨rfl, rfl, rfl⟩ | ⟨b, σ, rfl, rfl, hq⟩
  · intro σ hs; cases hs
  · intro σ' hs
    cases hs
    exact poolR_wf h hq
end Go.Proofs.YtjmicpkinflofaaDoor.S
namespace Go.Proofs.YtjmicpkinflofaaDoor.S
open Go.RowKit
set_option linter.unusedVariables false
set_option linter.unusedSimpArgs false
set_option maxRecDepth 100000
set_option maxHeartbeats 4000000
theorem Spec.weak {P : Program} {f : FuncId} {vs : List Value} {Lp : List Hp} {R : Fr → Prop} {S S' : Value → List Hp → Prop} (h : Spec P f vs Lp R S) (hs : ∀ v L, S v L → ∃ L', S' v L' ∧ LE L L') : Spec P f vs Lp R S' := fun F w hR hsat =>
  (h F w hR hsat).mono fun e w' ⟨v, L, he, hS, hk⟩ => by
    obtain ⟨L', h1, h2⟩ := hs v L hS
    exact ⟨v, L', he, h1, hk.le h2⟩
theorem spec_optG {P : Program} {f : FuncId} {args : List Value} {R : Fr → Prop} {Q : Nat → Pl → Hp} {A : Option Addr} {s : Option Pl} {S0 S : Value → List Hp → Prop} {S1 : Nat → Pl → Value → List Hp → Prop}
    (h0 : Spec P f (.pointer none :: args) [] R S0) (h1 : ∀ b σ, s = some σ → Spec P f (ptr b 0 :: args) [Q b σ] R (S1 b σ))
    (c0 : A = none → s = none → ∀ v L, S0 v L → ∃ L', S v L' ∧ LE L L') (c1 : ∀ b σ, A = some ⟨b, 0, none⟩ → s = some σ → ∀ v L, S1 b σ v L → ∃ L', S v L' ∧ LE L L') : Spec P f (.pointer A :: args) [optR Q A s] R S := fun F w hR hs => by
  obtain ⟨h, ⟨a1, a2, hd, rfl, ho, ha2⟩, rest⟩ := hs
  unfold optR at ho
  rcases ho with ⟨rfl, rfl, rfl⟩ | ⟨b, σ, rfl, rfl, hq⟩
  · refine (h0 F w hR ⟨Heap.un Heap.emp a2, by rw [Heap.emp_un]; exact ha2, rest⟩).mono ?_
    rintro e w' ⟨v, L, rfl, hS, hk⟩
    obtain ⟨L', g1, g2⟩ := c0 rfl rfl v L hS
    exact ⟨_, _, rfl, g1, hk.le g2⟩
  · refine (h1 b σ rfl F w hR ⟨Heap.un a1 a2, ⟨a1, a2, hd, rfl, hq, ha2⟩, rest⟩).mono ?_
    rintro e w' ⟨v, L, rfl, hS, hk⟩
    obtain ⟨L', g1, g2⟩ := c1 b σ rfl rfl v L hS
    exact ⟨_, _, rfl, g1, hk.le g2⟩
abbrev OWf (s : Option Pl) : Prop := ∀ σ, s = some σ → Wf σ
theorem OWf.len {s : Option Pl} (h : OWf s) : ∀ σ, s = some σ → σ.rows.length ≤ 65600 ∧ σ.queue.length ≤ 65600 := fun σ hs => by
  have h1 := (h σ hs).len
  have h2 := Wf.queue_len (h σ hs)
  omega
/-! ### What the calls answer -/
def rowsO : Option Pl → List PObj | none => [] | some σ => σ.rows
def queueO : Option Pl → List Int | none => [] | some σ => σ.queue
def countO : Option Pl → Int | none => 0 | some σ => (σ.rows.length : Int)
def atO (i : Int) : Option Pl → PObj × Int | none => (oZ, 2) | some σ => atF σ i
def ownO (f : Int) : Option Pl → Int × Int | none => (0, 2) | some σ => byOwnerF σ f
def namO (t : ByteArray) : Option Pl → Int × Int | none => (0, 2) | some σ => byNameF σ t
def popO : Option Pl → Int × Int | none => (0, 2) | some σ => (popF σ).1
def pushO (i : Int) : Option Pl → Int | none => 2 | some σ => (pushF σ i).1
def assO (i f : Int) : Option Pl → Int | none => 2 | some σ => (assignF σ i f).1
def relO (i : Int) : Option Pl → Int | none => 2 | some σ => (releaseF σ i).1
def setO (i : Int) (n t : ByteArray) (k : Int) : Option Pl → Int | none => 2 | some σ => (setF σ i n t k).1
abbrev TT : Fr → Prop := fun _ => True
section
variable {A : Option Addr} {s : Option Pl}
theorem pop_o : Spec Tryd.prog 9 [.pointer A] [optR poolR A s] TT (fun v L => v = .tuple #[.int .i64 (popO s).1, .int .i64 (popO s).2] ∧ L = [optR poolR A (s.map fun σ => (popF σ).2)]) :=
  (spec_opt (A := A) (s := s) pop_nilp fun b σ _ => pop_spec b σ).mono fun v L ⟨h, h2⟩ => ⟨by rw [h]; cases s <;> rfl, h2⟩
theorem rpop_o (hw : OWf s) : Spec Tryd.prog 10 [.pointer A] [optR refR A s] TT (fun v L => v = .tuple #[.int .i64 (popO s).1, .int .i64 (popO s).2] ∧ L = [optR refR A (s.map fun σ => (popF σ).2)]) :=
  (spec_opt (A := A) (s := s) rpop_nil fun b σ hs => rpop_spec b σ (hw.len σ hs).2).mono fun v L ⟨h, h2⟩ => ⟨by rw [h]; cases s <;> rfl, h2⟩
theorem push_o (i : Int) : Spec Tryd.prog 12 [.pointer A, .int .i64 i] [optR poolR A s] TT (fun v L => v = .int .i64 (pushO i s) ∧ L = [optR poolR A (s.map fun σ => (pushF σ i).2)]) :=
  (spec_opt (A := A) (s := s) (push_nilp i) fun b σ _ => ppush_spec b σ i).mono fun v L ⟨h, h2⟩ => ⟨by rw [h]; cases s <;> rfl, h2⟩
theorem rpush_o (hw : OWf s) (i : Int) : Spec Tryd.prog 13 [.pointer A, .int .i64 i] [optR refR A s] TT (fun v L => v = .int .i64 (pushO i s) ∧ L = [optR refR A (s.map fun σ => (pushF σ i).2)]) :=
  (spec_opt (A := A) (s := s) (rpush_nil i) fun b σ hs => rpush_spec b σ i (hw.len σ hs).2).mono fun v L ⟨h, h2⟩ => ⟨by rw [h]; cases s <;> rfl, h2⟩
theorem assign_o (i f : Int) : Spec Tryd.prog 14 [.pointer A, .int .i64 i, .int .i64 f] [optR poolR A s] TT (fun v L => v = .int .i64 (assO i f s) ∧ L = [optR poolR A (s.map fun σ => (assignF σ i f).2)]) :=
  (spec_opt (A := A) (s := s) (assign_nilp i f) fun b σ _ => assign_spec b σ i f).mono fun v L ⟨h, h2⟩ => ⟨by rw [h]; cases s <;> rfl, h2⟩
theorem rassign_o (hw : OWf s) (i f : Int) : Spec Tryd.prog 15 [.pointer A, .int .i64 i, .int .i64 f] [optR refR A s] TT (fun v L => v = .int .i64 (assO i f s) ∧ L = [optR refR A (s.map fun σ => (assignF σ i f).2)]) :=
  (spec_opt (A := A) (s := s) (rassign_nil i f) fun b σ hs => rassign_spec b σ i f (hw.len σ hs).1 (hw.len σ hs).2).mono fun v L ⟨h, h2⟩ => ⟨by rw [h]; cases s <;> rfl, h2⟩
theorem release_o (i : Int) : Spec Tryd.prog 16 [.pointer A, .int .i64 i] [optR poolR A s] TT (fun v L => v = .int .i64 (relO i s) ∧ L = [optR poolR A (s.map fun σ => (releaseF σ i).2)]) :=
  (spec_opt (A := A) (s := s) (release_nilp i) fun b σ _ => release_spec b σ i).mono fun v L ⟨h, h2⟩ => ⟨by rw [h]; cases s <;> rfl, h2⟩
theorem rrelease_o (i : Int) : Spec Tryd.prog 17 [.pointer A, .int .i64 i] [optR refR A s] TT (fun v L => v = .int .i64 (relO i s) ∧ L = [optR refR A (s.map fun σ => (releaseF σ i).2)]) :=
  (spec_opt (A := A) (s := s) (rrelease_nil i) fun b σ _ => rrelease_spec b σ i).mono fun v L ⟨h, h2⟩ => ⟨by rw [h]; cases s <;> rfl, h2⟩
theorem set_o (i : Int) (n t : ByteArray) (k : Int) : Spec Tryd.prog 18 [.pointer A, .int .i64 i, .string n, .string t, .int .i64 k] [optR poolR A s] TT (fun v L => v = .int .i64 (setO i n t k s) ∧ L = [optR poolR A (s.map fun σ => (setF σ i n t k).2)]) :=
  (spec_opt (A := A) (s := s) (set_nilp i n t k) fun b σ _ => set_spec b σ i n t k).mono fun v L ⟨h, h2⟩ => ⟨by rw [h]; cases s <;> rfl, h2⟩
theorem rset_o (hw : OWf s) (i : Int) (n t : ByteArray) (k : Int) : Spec Tryd.prog 19 [.pointer A, .int .i64 i, .string n, .string t, .int .i64 k] [optR refR A s] TT (fun v L => v = .int .i64 (setO i n t k s) ∧ L = [optR refR A (s.map fun σ => (setF σ i n t k).2)]) :=
  (spec_opt (A := A) (s := s) (rset_nil i n t k) fun b σ hs => rset_spec b σ i n t k (hw.len σ hs).1).mono fun v L ⟨h, h2⟩ => ⟨by rw [h]; cases s <;> rfl, h2⟩
theorem mapId : s.map (fun σ => σ) = s := by cases s <;> rfl
theorem count_o : Spec Tryd.prog 31 [.pointer A] [optR poolR A s] TT (fun v L => v = .int .i64 (countO s) ∧ L = [optR poolR A s]) :=
  (spec_opt (A := A) (s := s) (nx := fun σ => σ) count_nil fun b σ _ => count_spec b σ).mono fun v L ⟨h, h2⟩ => ⟨by rw [h]; cases s <;> rfl, by rw [h2, mapId]⟩
theorem rcount_o : Spec Tryd.prog 32 [.pointer A] [optR refR A s] TT (fun v L => v = .int .i64 (countO s) ∧ L = [optR refR A s]) :=
  (spec_opt (A := A) (s := s) (nx := fun σ => σ) rcount_nil fun b σ _ => rcount_spec b σ).mono fun v L ⟨h, h2⟩ => ⟨by rw [h]; cases s <;> rfl, by rw [h2, mapId]⟩
theorem at_o (i : Int) : Spec Tryd.prog 33 [.pointer A, .int .i64 i] [optR poolR A s] TT (fun v L => v = .tuple #[objV (atO i s).1, .int .i64 (atO i s).2] ∧ L = [optR poolR A s]) :=
  (spec_opt (A := A) (s := s) (nx := fun σ => σ) (at_nil i) fun b σ _ => at_spec b σ i).mono fun v L ⟨h, h2⟩ => ⟨by rw [h]; cases s <;> rfl, by rw [h2, mapId]⟩
theorem rat_o (i : Int) : Spec Tryd.prog 34 [.pointer A, .int .i64 i] [optR refR A s] TT (fun v L => v = .tuple #[objV (atO i s).1, .int .i64 (atO i s).2] ∧ L = [optR refR A s]) :=
  (spec_opt (A := A) (s := s) (nx := fun σ => σ) (rat_nil i) fun b σ _ => rat_spec b σ i).mono fun v L ⟨h, h2⟩ => ⟨by rw [h]; cases s <;> rfl, by rw [h2, mapId]⟩
theorem own_o (f : Int) : Spec Tryd.prog 35 [.pointer A, .int .i64 f] [optR poolR A s] TT (fun v L => v = .tuple #[.int .i64 (ownO f s).1, .int .i64 (ownO f s).2] ∧ L = [optR poolR A s]) :=
  (spec_opt (A := A) (s := s) (nx := fun σ => σ) (byOwner_nil f) fun b σ _ => byOwner_spec b σ f).mono fun v L ⟨h, h2⟩ => ⟨by rw [h]; cases s <;> rfl, by rw [h2, mapId]⟩
theorem rown_o (hw : OWf s) (f : Int) : Spec Tryd.prog 36 [.pointer A, .int .i64 f] [optR refR A s] TT (fun v L => v = .tuple #[.int .i64 (ownO f s).1, .int .i64 (ownO f s).2] ∧ L = [optR refR A s]) :=
  (spec_opt (A := A) (s := s) (nx := fun σ => σ) (rbyOwner_nil f) fun b σ hs => rbyOwner_spec b σ f (hw.len σ hs).1).mono fun v L ⟨h, h2⟩ => ⟨by rw [h]; cases s <;> rfl, by rw [h2, mapId]⟩
theorem nam_o (t : ByteArray) : Spec Tryd.prog 37 [.pointer A, .string t] [optR poolR A s] TT (fun v L => v = .tuple #[.int .i64 (namO t s).1, .int .i64 (namO t s).2] ∧ L = [optR poolR A s]) :=
  (spec_opt (A := A) (s := s) (nx := fun σ => σ) (byName_nil t) fun b σ _ => byName_spec b σ t).mono fun v L ⟨h, h2⟩ => ⟨by rw [h]; cases s <;> rfl, by rw [h2, mapId]⟩
theorem rnam_o (hw : OWf s) (t : ByteArray) : Spec Tryd.prog 38 [.pointer A, .string t] [optR refR A s] TT (fun v L => v = .tuple #[.int .i64 (namO t s).1, .int .i64 (namO t s).2] ∧ L = [optR refR A s]) :=
  (spec_opt (A := A) (s := s) (nx := fun σ => σ) (rbyName_nil t) fun b σ hs => rbyName_spec b σ t (hw.len σ hs).1).mono fun v L ⟨h, h2⟩ => ⟨by rw [h]; cases s <;> rfl, by rw [h2, mapId]⟩
def StO (Q : Nat → Pl → Hp) (A : Option Addr) (s : Option Pl) (v : Value) (L : List Hp) : Prop := ∃ A' c B' d, v = stV A' B' (rowsO s).length (queueO s).length c d ∧ L = [own encObj A' c (rowsO s), own encI B' d (queueO s), optR Q A s]
theorem stNil {Q : Nat → Pl → Hp} : LE [] [own encObj none 0 [], own encI none 0 [], optR Q none none] := LE.trans LE.optNone (LE.trans (own_nil encI) (own_nil encObj))
theorem state_o : Spec Tryd.prog 27 [.pointer A] [optR poolR A s] TT (StO poolR A s) :=
  spec_optG state_nil (fun b σ _ => state_spec b σ) (by rintro rfl rfl v L ⟨rfl, rfl⟩; exact ⟨_, ⟨none, 0, none, 0, rfl, rfl⟩, stNil⟩) (by
    rintro b σ rfl rfl v L ⟨A', c, B', d, rfl, rfl⟩
    exact ⟨_, ⟨A', c, B', d, rfl, rfl⟩, LE.cons (LE.cons (LE.optSome .here))⟩)
theorem rstate_o (hw : OWf s) : Spec Tryd.prog 25 [.pointer A] [optR refR A s] TT (StO refR A s) :=
  spec_optG rstate_nil (fun b σ hs => rstate_spec b σ (hw.len σ hs).1 (hw.len σ hs).2) (by rintro rfl rfl v L ⟨rfl, rfl⟩; exact ⟨_, ⟨none, 0, none, 0, rfl, rfl⟩, stNil⟩) (by
    rintro b σ rfl rfl v L ⟨A', c, B', d, rfl, rfl⟩
    exact ⟨_, ⟨A', c, B', d, rfl, rfl⟩, LE.cons (LE.cons (LE.optSome .here))⟩)
def CpO (Q : Nat → Pl → Hp) (A : Option Addr) (s : Option Pl) (v : Value) (L : List Hp) : Prop := ∃ A', v = .pointer A' ∧ L = [optR Q A' s, optR Q A s]
theorem copy_o : Spec Tryd.prog 28 [.pointer A] [optR poolR A s] TT (CpO poolR A s) :=
  spec_optG copy_nil (fun b σ _ => copy_spec b σ) (by rintro rfl rfl v L ⟨rfl, rfl⟩; exact ⟨_, ⟨none, rfl, rfl⟩, LE.trans LE.optNone LE.optNone⟩) (by
    rintro b σ rfl rfl v L ⟨b', rfl, rfl⟩
    exact ⟨_, ⟨_, rfl, rfl⟩, LE.trans (LE.cons (LE.optSome .here)) (LE.optSome .here)⟩)
theorem rcopy_o (hw : OWf s) : Spec Tryd.prog 29 [.pointer A] [optR refR A s] TT (CpO refR A s) :=
  spec_optG rcopy_nil (fun b σ hs => rcopy_spec b σ (hw.len σ hs).1 (hw.len σ hs).2) (by rintro rfl rfl v L ⟨rfl, rfl⟩; exact ⟨_, ⟨none, rfl, rfl⟩, LE.trans LE.optNone LE.optNone⟩) (by
    rintro b σ rfl rfl v L ⟨b', rfl, rfl⟩
    exact ⟨_, ⟨_, rfl, rfl⟩, LE.trans (LE.cons (LE.optSome .here)) (LE.optSome .here)⟩)
end
def NwO (Q : Nat → Pl → Hp) (r : Option Pl × Int) (v : Value) (L : List Hp) : Prop := ∃ A, v = .tuple #[.pointer A, .int .i64 r.2] ∧ L = [optR Q A r.1]
theorem new_o (f s : Int) : Spec Tryd.prog 22 [.int .i64 f, .int .i64 s] [] TT (NwO poolR (newF f s)) := (new_spec f s).weak fun v L h => by
  generalize newF f s = r at *
  obtain ⟨_ | σ, e⟩ := r
  · obtain ⟨rfl, rfl⟩ := h
    exact ⟨_, ⟨none, rfl, rfl⟩, LE.optNone⟩
  · obtain ⟨b, rfl, rfl⟩ := h
    exact ⟨_, ⟨_, rfl, rfl⟩, LE.optSome .here⟩
theorem rnew_o (f s : Int) : Spec Tryd.prog 23 [.int .i64 f, .int .i64 s] [] TT (NwO refR (newF f s)) := (rnew_spec f s).weak fun v L h => by
  generalize newF f s = r at *
  obtain ⟨_ | σ, e⟩ := r
  · obtain ⟨rfl, rfl⟩ := h
    exact ⟨_, ⟨none, rfl, rfl⟩, LE.optNone⟩
  · obtain ⟨b, rfl, rfl⟩ := h
    exact ⟨_, ⟨_, rfl, rfl⟩, LE.optSome .here⟩
end Go.Proofs.YtjmicpkinflofaaDoor.S
namespace Go.Proofs.YtjmicpkinflofaaDoor.S
open Go.RowKit
set_option linter.unusedVariables false
set_option linter.unusedSimpArgs false
set_option maxRecDepth 100000
set_option maxHeartbeats 4000000
set_option synthInstance.maxHeartbeats 400000
set_option synthInstance.maxSize 4000
attribute [local irreducible] wpList Code.wp Exit.then Exit.inBlock stillR bodyPost hR J Back Mid
structure POp where
  kind : Int
  at_ : Int
  a : Int
  b : Int
  bucket : Int
  name : ByteArray
  tag : ByteArray
  st : Sl PObj × Sl Int
def encPOp : Enc POp := ⟨9, by decide, fun o => [.int .i64 o.kind, .int .i64 o.at_, .int .i64 o.a, .int .i64 o.b, .int .i64 o.bucket, .string o.name, .string o.tag, .slice o.st.1.A o.st.1.xs.length o.st.1.c, .slice o.st.2.A o.st.2.xs.length o.st.2.c], fun _ => rfl, fun x v h => by simp at h; rcases h with rfl | rfl | rfl | rfl | rfl | rfl | rfl | rfl | rfl <;> rfl⟩
instance : EncSz encPOp 9 := ⟨rfl⟩
instance encAll_pop {o : POp} : EncAll encPOp o [.int .i64 o.kind, .int .i64 o.at_, .int .i64 o.a, .int .i64 o.b, .int .i64 o.bucket, .string o.name, .string o.tag, .slice o.st.1.A o.st.1.xs.length o.st.1.c, .slice o.st.2.A o.st.2.xs.length o.st.2.c] := ⟨rfl⟩
def opV (o : POp) : Value := .agg [.int .i64 o.kind, .int .i64 o.at_, .int .i64 o.a, .int .i64 o.b, .int .i64 o.bucket, .string o.name, .string o.tag, .slice o.st.1.A o.st.1.xs.length o.st.1.c, .slice o.st.2.A o.st.2.xs.length o.st.2.c].toArray
theorem layV_spec (b k : Nat) (hk : k < 3) (os rs : List (Option Addr)) (h1 : os.length = 3) (h2 : rs.length = 3) (bk mk : Value) (A B : Option Addr) (c d : Nat) (objs : List PObj) (q : List Int) (f s : Int) (ho : objs.length * 48 ≤ 140737488351232) (hq : q.length * 8 ≤ 140737488351232) :
    Spec Tryd.prog 24 [ptr b 0, .int .i64 (k : Int), stV A B objs.length q.length c d, .int .i64 f, .int .i64 s] [cells b 0 (benchV os rs bk mk)] (fun F => RO F encObj A objs ∧ RO F encI B q)
      (fun v L => v = .bool true ∧ ∃ A1 A2, L = [cells b 0 (benchV (os.set k A1) (rs.set k A2) bk mk), optR poolR A1 (loadF objs q f s).1, optR refR A2 (loadF objs q f s).1]) := by
  obtain ⟨a0, a1, a2, rfl⟩ := len3 h1
  obtain ⟨e0, e1, e2, rfl⟩ := len3 h2
  have h := lay_spec b k hk (.pointer a0) (.pointer a1) (.pointer a2) (.pointer e0) (.pointer e1) (.pointer e2) bk mk A B c d objs q f s ho hq
  rw [benchV_lit]
  refine h.mono ?_
  rintro v L ⟨rfl, A1, A2, rfl⟩
  refine ⟨rfl, A1, A2, ?_⟩
  obtain rfl | rfl | rfl : k = 0 ∨ k = 1 ∨ k = 2 := by omega
  all_goals
    unfold benchV
    rfl
theorem keepV_spec (b : Nat) (os rs : List (Option Addr)) (h1 : os.length = 3) (h2 : rs.length = 3) (kA : Option Addr) (kc : Nat) (book : List Kp) (m : Int) (hm : rngI m) (hbl : book.length ≤ 100000000) (A B : Option Addr) (c d : Nat) (rows : List PObj) (q : List Int) (hr : rows.length ≤ 65600) (hq : q.length ≤ 65600) :
    Spec Tryd.prog 30 [ptr b 0, stV A B rows.length q.length c d] [cells b 0 (benchV os rs (.slice kA book.length kc) (.int .i64 m)), own encKp kA kc book, allR keptR book, own encObj A c rows, own encI B d q] Tab
      (fun v L => v = .tuple #[] ∧ ∃ kA' kc' kp m', KpOk kp ∧ rngI m' ∧ L = [cells b 0 (benchV os rs (.slice kA' (book ++ [kp]).length kc') (.int .i64 m')), own encKp kA' kc' (book ++ [kp]), allR keptR (book ++ [kp])]) := by
  obtain ⟨a0, a1, a2, rfl⟩ := len3 h1
  obtain ⟨e0, e1, e2, rfl⟩ := len3 h2
  have h := keep_spec b (.pointer a0) (.pointer a1) (.pointer a2) (.pointer e0) (.pointer e1) (.pointer e2) kA kc book m hm hbl A B c d rows q hr hq
  rw [benchV_lit]
  refine h.mono ?_
  rintro v L ⟨rfl, kA', kc', kp, m', g1, g2, rfl⟩
  exact ⟨rfl, kA', kc', kp, m', g1, g2, by rw [benchV_lit]⟩
theorem stillV_spec (b : Nat) (os rs : List (Option Addr)) (h1 : os.length = 3) (h2 : rs.length = 3) (mk : Value) (kA : Option Addr) (kc : Nat) (book : List Kp) (hk : ∀ k ∈ book, KpOk k) (hl : book.length ≤ 9223372036854775807) : Spec Tryd.prog 5 [ptr b 0] [cells b 0 (benchV os rs (.slice kA book.length kc) mk), own encKp kA kc book, allR keptR book] (fun _ => True) (fun v L => v = .bool true ∧ L = [cells b 0 (benchV os rs (.slice kA book.length kc) mk), own encKp kA kc book, allR keptR book]) := by
  obtain ⟨a0, a1, a2, rfl⟩ := len3 h1
  obtain ⟨e0, e1, e2, rfl⟩ := len3 h2
  rw [benchV_lit]
  exact still_spec b (.pointer a0) (.pointer a1) (.pointer a2) (.pointer e0) (.pointer e1) (.pointer e2) mk kA kc book hk hl
abbrev own1 (ps : List Pc) : List (Option Addr) := ps.map fun p => p.1
abbrev ref1 (ps : List Pc) : List (Option Addr) := ps.map fun p => p.2.1
def BL (b : Nat) (ps : List Pc) (kA : Option Addr) (kc : Nat) (book : List Kp) (m : Int) : List Hp := [cells b 0 (benchV (own1 ps) (ref1 ps) (.slice kA book.length kc) (.int .i64 m)), own encKp kA kc book, allR keptR book, allR placeR ps]
section
variable {ps : List Pc} {k : Nat} {A R A' R' : Option Addr} {s s' : Option Pl} {M : List Hp}
theorem LE.pcAt (hx : ps[k]? = some (A, R, s)) : LE (allR placeR ps :: M) (optR poolR A s :: optR refR R s :: allR placeR (ps.eraseIdx k) :: M) := LE.trans (LE.allAt hx) LE.placeOut
theorem LE.pcSet (hx : ps[k]? = some (A, R, s)) : LE (optR poolR A' s' :: optR refR R' s' :: allR placeR (ps.eraseIdx k) :: M) (allR placeR (ps.set k (A', R', s')) :: M) := LE.trans LE.placeIn (LE.allSet hx)
theorem own1_set : own1 (ps.set k (A', R', s')) = (own1 ps).set k A' := List.map_set
theorem ref1_set : ref1 (ps.set k (A', R', s')) = (ref1 ps).set k R' := List.map_set
theorem own1_same (hx : ps[k]? = some (A, R, s)) : own1 (ps.set k (A, R', s')) = own1 ps := by rw [own1_set]; exact set_same (by rw [List.getElem?_map, hx]; rfl)
theorem ref1_same (hx : ps[k]? = some (A, R, s)) : ref1 (ps.set k (A', R, s')) = ref1 ps := by rw [ref1_set]; exact set_same (by rw [List.getElem?_map, hx]; rfl)
theorem own1_at (hx : ps[k]? = some (A, R, s)) : At (own1 ps) k A := ⟨by rw [List.getElem?_map, hx]; rfl⟩
theorem ref1_at (hx : ps[k]? = some (A, R, s)) : At (ref1 ps) k R := ⟨by rw [List.getElem?_map, hx]; rfl⟩
end
/-- What a step leaves. -/
def PlQ (b n : Nat) (v : Value) (L : List Hp) : Prop := v = .bool true ∧ ∃ ps kA kc book m, ps.length = 3 ∧ (∀ k ∈ book, KpOk k) ∧ rngI m ∧ book.length ≤ n ∧ L = BL b ps kA kc book m
end Go.Proofs.YtjmicpkinflofaaDoor.S
