/- The walk: slices built, made, copied, cut; bytes and strings. Generic over programs. -/
import Derived.Test.YtjmicpkinflofaaDoorS6
import Derived.IntWalk
namespace Go.Proofs.YtjmicpkinflofaaDoor.S
open Go.RowKit
set_option linter.unusedVariables false
set_option linter.unusedSimpArgs false

/-! ### Encodings of plain elements -/
def encI : Enc Int := ⟨1, by decide, fun i => [.int .i64 i], fun _ => rfl, fun x v h => by simp at h; subst h; rfl⟩
def encS : Enc ByteArray := ⟨1, by decide, fun s => [.string s], fun _ => rfl, fun x v h => by simp at h; subst h; rfl⟩
def encU : Enc UInt8 := ⟨1, by decide, fun i => [.int .u8 (i.toNat : Int)], fun _ => rfl, fun x v h => by simp at h; subst h; rfl⟩
def encB : Enc Bool := ⟨1, by decide, fun i => [.bool i], fun _ => rfl, fun x v h => by simp at h; subst h; rfl⟩
def encP : Enc (Option Addr) := ⟨1, by decide, fun i => [.pointer i], fun _ => rfl, fun x v h => by simp at h; subst h; rfl⟩
instance : EncSz encI 1 := ⟨rfl⟩
instance : EncSz encS 1 := ⟨rfl⟩
instance : EncSz encU 1 := ⟨rfl⟩
instance : EncSz encB 1 := ⟨rfl⟩
instance : EncSz encP 1 := ⟨rfl⟩
instance encAll_I {x : Int} : EncAll encI x [.int .i64 x] := ⟨rfl⟩
instance encAll_S {x : ByteArray} : EncAll encS x [.string x] := ⟨rfl⟩
instance encAll_U {x : UInt8} : EncAll encU x [.int .u8 (x.toNat : Int)] := ⟨rfl⟩
instance encAll_B {x : Bool} : EncAll encB x [.bool x] := ⟨rfl⟩
instance encAll_P {x : Option Addr} : EncAll encP x [.pointer x] := ⟨rfl⟩
instance decL_I {x : Int} {vs : List Value} {xs : List Int} [h : DecL encI vs xs] : DecL encI (.int .i64 x :: vs) (x :: xs) := ⟨by rw [List.flatMap_cons, h.out]; rfl⟩
instance decL_S {x : ByteArray} {vs : List Value} {xs : List ByteArray} [h : DecL encS vs xs] : DecL encS (.string x :: vs) (x :: xs) := ⟨by rw [List.flatMap_cons, h.out]; rfl⟩
instance decL_B {x : Bool} {vs : List Value} {xs : List Bool} [h : DecL encB vs xs] : DecL encB (.bool x :: vs) (x :: xs) := ⟨by rw [List.flatMap_cons, h.out]; rfl⟩
instance decL_P {x : Option Addr} {vs : List Value} {xs : List (Option Addr)} [h : DecL encP vs xs] : DecL encP (.pointer x :: vs) (x :: xs) := ⟨by rw [List.flatMap_cons, h.out]; rfl⟩
instance decL_U {x : UInt8} {vs : List Value} {xs : List UInt8} [h : DecL encU vs xs] : DecL encU (.int .u8 (x.toNat : Int) :: vs) (x :: xs) := ⟨by rw [List.flatMap_cons, h.out]; rfl⟩
instance decL_U0 {vs : List Value} {xs : List UInt8} [h : DecL encU vs xs] : DecL encU (.int .u8 0 :: vs) (0 :: xs) := ⟨by rw [List.flatMap_cons, h.out]; rfl⟩
instance encSet_I {x y : Int} : EncSet encI x 0 [.int .i64 y] y := ⟨Nat.le_refl 1, rfl⟩
instance encSet_S {x y : ByteArray} : EncSet encS x 0 [.string y] y := ⟨Nat.le_refl 1, rfl⟩
instance encSet_U {x y : UInt8} : EncSet encU x 0 [.int .u8 (y.toNat : Int)] y := ⟨Nat.le_refl 1, rfl⟩
instance encSet_B {x y : Bool} : EncSet encB x 0 [.bool y] y := ⟨Nat.le_refl 1, rfl⟩
instance encSet_P {x y : Option Addr} : EncSet encP x 0 [.pointer y] y := ⟨Nat.le_refl 1, rfl⟩
/-! ### A slice written out -/
class AppV (cs ws : List Value) (us : outParam (List Value)) : Prop where out : cs ++ ws = us
instance appV_nil {ws : List Value} : AppV [] ws ws := ⟨rfl⟩
instance appV_cons {c : Value} {cs ws us : List Value} [h : AppV cs ws us] : AppV (c :: cs) ws (c :: us) := ⟨by rw [List.cons_append, h.out]⟩
class CatV (e : Env) (k sz : Nat) (parts : List (Nat × Operand)) (ws : outParam (List Value)) : Prop where
  out : ws.length = parts.length * sz ∧ ∀ {N : Nat} {a : Act}, Fits N e a → ∀ pre rest : List Value, pre.length = k * sz → rest.length = parts.length * sz →
    Instr.fill (fun i => some (i * sz, sz)) (pre ++ rest).toArray (parts.map fun q => (q.1, a.eval q.2)) = some (pre ++ ws).toArray
instance catV_nil {e : Env} {k sz : Nat} : CatV e k sz [] [] := ⟨by simp, fun _ pre rest _ hr => by
  have : rest = [] := by simpa using hr
  subst this
  rfl⟩
instance catV_cons {e : Env} {k sz : Nat} {x : Operand} {v : Value} {cs ws us : List Value} {parts : List (Nat × Operand)} [hx : EvO e x v] [hc : CellsV v cs] [hn : LenV cs sz] [hr : CatV e (k + 1) sz parts ws] [ha : AppV cs ws us] : CatV e k sz ((k, x) :: parts) us := ⟨by
  rw [← ha.out, List.length_append, hn.out, hr.out.1, List.length_cons, Nat.add_mul]; omega, fun {N a} hf pre rest hp hrl => by
  have h1 : v.cells.size = sz := by rw [← Array.length_toList, hc.out]; exact hn.out
  simp only [List.length_cons, Nat.add_mul, Nat.one_mul] at hrl
  have h2 : (v.cells.zipIdx.foldl (fun cs (c, j) => cs.setIfInBounds (k * sz + j) c) (pre ++ rest).toArray) = ((pre ++ cs) ++ rest.drop sz).toArray := by
    apply Array.ext'
    have e1 := fold_over v.cells.toList 0 (k * sz) (pre ++ rest).toArray (by simp only [List.size_toArray, Array.length_toList, List.length_append]; omega)
    rw [Nat.add_zero, hc.out] at e1
    have e2 : overL (pre ++ rest).toArray.toList (k * sz) cs = (pre ++ cs) ++ rest.drop sz := by
      unfold overL
      simp only [hn.out]
      rw [← hp, List.take_left, List.drop_append, List.drop_of_length_le (by omega), List.nil_append, show pre.length + sz - pre.length = sz by omega]
    rw [e2] at e1
    rw [← e1, ← hc.out]
    congr 1
    rw [← Array.foldl_toList]
    congr 1
    simp
  simp only [List.map_cons, Instr.fill, hx.out hf, h1, ne_eq, not_true_eq_false, decide_false, Bool.false_or, List.size_toArray]
  rw [if_neg (by simp; omega), h2, hr.out.2 hf (pre ++ cs) (rest.drop sz) (by rw [List.length_append, hn.out, hp, Nat.add_mul]; omega) (by rw [List.length_drop]; omega), List.append_assoc, ha.out]⟩
section
variable {α : Type} {P : Program} {N : Nat} {e : Env} {L L' : List Hp} {F : Fr} {Q : Exit → Act → World → Prop} {ops : Array Oper} {d : Nat} {t t' et : TypeId} {B : Nat} {d' : TypeDesc} {p : String} {af : Array Edge} {rest : List Oper} {x y : Operand} {v z : Value} {n c m sz : Nat} {A : Option Addr} {xs ys : List α} {cs ws zs : List Value} {v1 : TypeId} {E : Enc α}
theorem j_buildSlice {parts : List (Nat × Operand)} [ht : Und P t (.slice et)] [hs : Siz P et sz] [hz : ZCells P et sz] [hc : CatV e 0 sz parts ws] (hn : parts.length = n) (hpos : Nat.blt 0 (n * sz) = true) (hlim : Nat.ble (n * sz) 16777216 = true) (hd : Nat.blt d N = true)
    (h : ∀ b, J N ((d, .slice (some ⟨b, 0, none⟩) n n) :: e) (cells b 0 ws :: L) F (wpList P ops Q rest)) : J N e L F (wpList P ops Q (⟨some d, .buildSlice t n parts.toArray, v1, p, af, none⟩ :: rest)) :=
  j_run rfl fun a w hf hsat => by
    obtain ⟨zv, hzr, hzs, _⟩ := hz.out w
    have hpos' : 0 < n * sz := by simpa [Nat.blt_eq] using hpos
    have hlim' : n * sz ≤ 16777216 := Nat.le_of_ble_eq_true hlim
    have h0 := hc.out.2 hf [] ((Array.range (n * sz)).map (zv.cells[· % zv.cells.size]!)).toList (by simp) (by simp [hn])
    rw [List.nil_append, List.nil_append, Array.toArray_toList] at h0
    refine ⟨_, w.alloc (.cells ws.toArray et), ?_, h w.heap.size _ _ (hf.put hd _) (hsat.alloc _ new_cells)⟩
    have h1 : ((parts.toArray.map fun (q : Nat × Operand) => (q.1, a.eval q.2))).toList = parts.map fun q => (q.1, a.eval q.2) := by simp
    have h2 : ¬ n * sz > 2 ^ 24 := by omega
    simp only [execOp, Instr.buildSlice, Sem.run_bind, Sem.run_pure, run_und, Result.andThen_ok, hs.out, h2, if_false, show ¬ n * sz = 0 by omega, hzr, h1, h0, newRow, run_newObj]
    rfl
/-! ### make -/
theorem zero_flat (E : Enc α) {x0 : α} {zc : Array Value} (hz : zc.toList = E.cells x0) (n : Nat) : ((Array.range (n * E.sz)).map (zc[· % zc.size]!)).toList = (List.replicate n x0).flatMap E.cells := by
  have hsz : zc.size = E.sz := by rw [← Array.length_toList, hz, E.len]
  have hp := E.pos
  apply List.ext_getElem?
  intro m
  by_cases hm : m < n * E.sz
  · have hdm := Nat.div_add_mod m E.sz
    have hlt := Nat.mod_lt m hp
    have hjm : m / E.sz < n := Nat.div_lt_of_lt_mul (by rw [Nat.mul_comm]; exact hm)
    have h1 := flat_get E (List.replicate n x0) (m / E.sz) x0 (m % E.sz) (by rw [List.getElem?_replicate, if_pos hjm]) hlt
    have e1 : m / E.sz * E.sz + m % E.sz = m := by rw [Nat.mul_comm]; exact hdm
    rw [e1, ← hz] at h1
    rw [h1]
    simp only [Array.toList_map, Array.toList_range, List.getElem?_map, List.getElem?_range hm, Option.map_some, hsz]
    rw [getElem!_pos zc _ (by rw [hsz]; exact hlt)]
    simp
  · rw [List.getElem?_eq_none (by simp; omega), List.getElem?_eq_none (by rw [flat_len]; simp; omega)]
class ZeroE (P : Program) (et : TypeId) (E : Enc α) (x0 : outParam α) : Prop where out : ∀ w, ∃ z, (zeroValue et).run P w = .ok z w ∧ z.cells.toList = E.cells x0
instance zeroE_of {x0 : α} [h : Zro P et z] [hc : CellsV z cs] [hd : DecL E cs [x0]] : ZeroE P et E x0 := ⟨fun w => ⟨z, h.out w, by rw [hc.out, ← hd.out]; simp⟩⟩
theorem j_makeSlice (E : Enc α) {x0 : α} {i j : Int} {k l : Nat} [hx : EvO e x (.int .i64 i)] [hy : EvO e y (.int .i64 j)] [hk : NatIdx i k] [hl : NatIdx j l] [ht : Und P t (.slice et)] [hs : Siz P et E.sz] [hB : Byt P et B] [hz : ZeroE P et E x0] (hkl : k ≤ l) (hlim : B * l ≤ 281474976710656) (hmax : l ≤ 9223372036854775807) (hd : Nat.blt d N = true)
    (h : ∀ A, J N ((d, .slice A k l) :: e) (own E A l (List.replicate k x0) :: L) F (wpList P ops Q rest)) : J N e L F (wpList P ops Q (⟨some d, .makeSlice t x y, v1, p, af, none⟩ :: rest)) :=
  j_run rfl fun a w hf hsat => by
    obtain ⟨i0, hi, hib⟩ := hB.out w
    obtain ⟨zv, hzr, hzc⟩ := hz.out w
    have hp := E.pos
    have w1 : IntKind.i64.wrap (k : Int) = k := Go.IntWalk.i64_in _ (by omega)
    have w2 : IntKind.i64.wrap (l : Int) = l := Go.IntWalk.i64_in _ (by omega)
    have hbl : ((i0.bytes : Nat) : Int) * (l : Int) ≤ 281474976710656 := by rw [hib, ← Int.natCast_mul]; exact Int.ofNat_le.2 hlim
    refine ⟨.slice (some ⟨w.heap.size, 0, none⟩) k l, w.alloc (.cells ((List.replicate k x0).flatMap E.cells ++ (List.replicate (l - k) x0).flatMap E.cells).toArray et), ?_, ?_⟩
    · have htl : ¬ ((l : Int) < 0) := by omega
      have hkn : ¬ ((k : Int) < 0) := by omega
      have hkl' : ¬ ((l : Int) < (k : Int)) := by omega
      have hbl' : ¬ ((281474976710656 : Int) < (i0.bytes : Int) * (l : Int)) := by omega
      have hcells : ((Array.range (l * E.sz)).map (zv.cells[· % zv.cells.size]!)) = ((List.replicate k x0).flatMap E.cells ++ (List.replicate (l - k) x0).flatMap E.cells).toArray := by
        apply Array.ext'
        rw [zero_flat E hzc, ← List.flatMap_append]
        congr 1
        rw [List.replicate_append_replicate]
        congr 1
        omega
      simp only [execOp, hx.out hf, hy.out hf, hk.out, hl.out, Instr.makeSlice, Sem.run_bind, Sem.run_pure, run_und, Result.andThen_ok, asInt, asIntOf, hi, w1, w2, hs.out, run_askRoom, hzr, newRow, run_newObj]
      simp only [Int.toNat_natCast]
      by_cases h0 : l = 0
      · subst h0
        have : k = 0 := by omega
        subst this
        simp [hs.out]
        congr 2
        apply Array.ext'
        simp
      · have hne : ¬ l * E.sz = 0 := by
          intro hh
          rcases Nat.mul_eq_zero.1 hh with h1 | h1
          · exact h0 h1
          · omega
        simp [htl, hkn, hkl', hbl', hne, hzr, hcells, hs.out]
    · have := h (some ⟨w.heap.size, 0, none⟩) (a.put (some d) (.slice (some ⟨w.heap.size, 0, none⟩) k l)) (w.alloc (.cells ((List.replicate k x0).flatMap E.cells ++ (List.replicate (l - k) x0).flatMap E.cells).toArray et)) (by
        exact hf.put hd (.slice (some ⟨w.heap.size, 0, none⟩) k l)) (hsat.alloc _ (.inr ⟨w.heap.size, 0, (List.replicate (l - k) x0).flatMap E.cells, rfl, by simpa using hkl, by rw [flat_len]; simp, flat_one E _, new_cells⟩))
      exact this
end
end Go.Proofs.YtjmicpkinflofaaDoor.S
