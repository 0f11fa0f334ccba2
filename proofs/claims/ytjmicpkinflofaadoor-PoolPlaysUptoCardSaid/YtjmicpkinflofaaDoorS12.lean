/- The walk: cuts as values, arrays, pointers that may be nil, picks that are decided. Generic over programs. -/
import Derived.Test.YtjmicpkinflofaaDoorS11
namespace Go.Proofs.YtjmicpkinflofaaDoor.S
open Go.RowKit
set_option linter.unusedVariables false
set_option linter.unusedSimpArgs false

section
variable {P : Program} {N : Nat} {e : Env} {L L' : List Hp} {F F' : Fr} {d : Nat} {dst : Option Nat} {t u et v1 : TypeId} {p : String} {af : Array Edge} {g : Option (Nat × Bool)} {x y z : Operand} {v : Value} {A B : Option Addr} {n c m lo hi k sz b o : Nat} {ki kj : IntKind} {i j : Int} {s : ByteArray}
instance sv_slice_hi [hx : EvO e x (.slice A n c)] [hy : EvO e y (.int ki i)] [hi' : NatIdx i hi] [ht : Und P t (.slice et)] [hs : Siz P et m] [h : Ft (hi ≤ c)] : StepV P e L F ⟨dst, .slice t x none (some y) none, v1, p, af, g⟩ (.slice A hi c) := ⟨fun {N a w} hf hsat => by
  have h0 : asub A c 0 m = A := by
    unfold asub
    split
    · rfl
    · cases A <;> simp [Addr.add]
  have r := run_slice_slice (P := P) (t := t) (et := et) (m := m) (w := w) (A := A) (n := n) (c := c) (l := none) (h := some (.int ki i)) (lo := 0) (hi := hi) (.inl ⟨rfl, rfl⟩) (.inr ⟨ki, by rw [hi'.out]⟩) (by omega) h.out
  rw [h0, Nat.sub_zero, Nat.sub_zero] at r
  simp only [execOp, Option.map_some, Option.map_none, hx.out hf, hy.out hf, Sem.run_bind, r, Result.andThen_ok, Sem.run_pure]⟩
instance sv_slice_lo [hx : EvO e x (.slice A n c)] [hy : EvO e y (.int ki i)] [hi' : NatIdx i lo] [ht : Und P t (.slice et)] [hs : Siz P et m] [h : Ft (lo ≤ n)] [h' : Ft (n ≤ c)] : StepV P e L F ⟨dst, .slice t x (some y) none none, v1, p, af, g⟩ (.slice (asub A c lo m) (n - lo) (c - lo)) := ⟨fun {N a w} hf hsat => by
  have r := run_slice_slice (P := P) (t := t) (et := et) (m := m) (w := w) (A := A) (n := n) (c := c) (h := none) (l := some (.int ki i)) (lo := lo) (hi := n) (.inr ⟨ki, by rw [hi'.out]⟩) (.inl ⟨rfl, rfl⟩) h.out h'.out
  simp only [execOp, Option.map_some, Option.map_none, hx.out hf, hy.out hf, Sem.run_bind, r, Result.andThen_ok, Sem.run_pure]⟩
instance sv_slice_lh [hx : EvO e x (.slice A n c)] [hy : EvO e y (.int ki i)] [hl' : NatIdx i lo] [hz : EvO e z (.int kj j)] [hi' : NatIdx j hi] [ht : Und P t (.slice et)] [hs : Siz P et m] [h : Ft (lo ≤ hi)] [h' : Ft (hi ≤ c)] : StepV P e L F ⟨dst, .slice t x (some y) (some z) none, v1, p, af, g⟩ (.slice (asub A c lo m) (hi - lo) (c - lo)) := ⟨fun {N a w} hf hsat => by
  have r := run_slice_slice (P := P) (t := t) (et := et) (m := m) (w := w) (A := A) (n := n) (c := c) (h := some (.int kj j)) (l := some (.int ki i)) (lo := lo) (hi := hi) (.inr ⟨ki, by rw [hl'.out]⟩) (.inr ⟨kj, by rw [hi'.out]⟩) h.out h'.out
  simp only [execOp, Option.map_some, Option.map_none, hx.out hf, hy.out hf, hz.out hf, Sem.run_bind, r, Result.andThen_ok, Sem.run_pure]⟩
instance sv_slice_str_hi [hx : EvO e x (.string s)] [hy : EvO e y (.int ki i)] [hi' : NatIdx i hi] [ht : Und P t .string] [h : Ft (hi ≤ s.size)] : StepV P e L F ⟨dst, .slice t x none (some y) none, v1, p, af, g⟩ (.string (s.extract 0 hi)) := ⟨fun {N a w} hf hsat => by
  have r := run_slice_string (P := P) (t := t) (w := w) (s := s) (l := none) (h := some (.int ki i)) (lo := 0) (hi := hi) (.inl ⟨rfl, rfl⟩) (.inr ⟨ki, by rw [hi'.out]⟩) (by omega) h.out
  simp only [execOp, Option.map_some, Option.map_none, hx.out hf, hy.out hf, Sem.run_bind, r, Result.andThen_ok, Sem.run_pure]⟩
instance sv_slice_str_lo [hx : EvO e x (.string s)] [hy : EvO e y (.int ki i)] [hi' : NatIdx i lo] [ht : Und P t .string] [h : Ft (lo ≤ s.size)] : StepV P e L F ⟨dst, .slice t x (some y) none none, v1, p, af, g⟩ (.string (s.extract lo s.size)) := ⟨fun {N a w} hf hsat => by
  have r := run_slice_string (P := P) (t := t) (w := w) (s := s) (h := none) (l := some (.int ki i)) (lo := lo) (hi := s.size) (.inr ⟨ki, by rw [hi'.out]⟩) (.inl ⟨rfl, rfl⟩) h.out (Nat.le_refl _)
  simp only [execOp, Option.map_some, Option.map_none, hx.out hf, hy.out hf, Sem.run_bind, r, Result.andThen_ok, Sem.run_pure]⟩
instance sv_slice_str_lh [hx : EvO e x (.string s)] [hy : EvO e y (.int ki i)] [hl' : NatIdx i lo] [hz : EvO e z (.int kj j)] [hi' : NatIdx j hi] [ht : Und P t .string] [h : Ft (lo ≤ hi)] [h' : Ft (hi ≤ s.size)] : StepV P e L F ⟨dst, .slice t x (some y) (some z) none, v1, p, af, g⟩ (.string (s.extract lo hi)) := ⟨fun {N a w} hf hsat => by
  have r := run_slice_string (P := P) (t := t) (w := w) (s := s) (h := some (.int kj j)) (l := some (.int ki i)) (lo := lo) (hi := hi) (.inr ⟨ki, by rw [hl'.out]⟩) (.inr ⟨kj, by rw [hi'.out]⟩) h.out h'.out
  simp only [execOp, Option.map_some, Option.map_none, hx.out hf, hy.out hf, hz.out hf, Sem.run_bind, r, Result.andThen_ok, Sem.run_pure]⟩
/-! ### Arrays -/
class MulO (k sz : Nat) (m : outParam Nat) : Prop where out : m = k * sz
instance (priority := high) mulO_one : MulO k 1 k := ⟨by simp⟩
instance mulO_any : MulO k sz (k * sz) := ⟨rfl⟩
instance sv_index_array {m' o' : Nat} [hx : EvO e x (.pointer (some ⟨b, o, none⟩))] [hy : EvO e y (.int ki i)] [hi : NatIdx i k] [ht : Und P t (.array n et)] [hs : Siz P et sz] [hm : MulO k sz m'] [ho : AddO o m' o'] [hk : Ft (k < n)] : StepV P e L F ⟨dst, .indexAddr t x y, v1, p, af, g⟩ (.pointer (some ⟨b, o', none⟩)) := ⟨fun hf hsat => by
  have h1 : ((0 : Int) ≤ (k : Int) ∧ (k : Int) < (n : Int)) := ⟨by omega, by have := hk.out; omega⟩
  simp only [execOp, hx.out hf, hy.out hf, Instr.indexAt, asIntOf, hi.out, Sem.run_bind, Sem.run_pure, Result.andThen_ok, run_und, h1, and_self, if_true, hs.out, Instr.sureAddr, add_off, Int.toNat_natCast, ho.out, hm.out]⟩
/-! ### Pointers that may be nil; values that are decided -/
theorem eqIn_ptr_opt {q : Nat} {w : World} [ht : Und P t (.pointer et)] : (Op.equalIn (q + 1) t (.pointer A) (.pointer none)).run P w = .ok A.isNone w := by
  cases A <;> simp [Op.equalIn, run_und]
instance (priority := low) sv_eql_ptr_opt [hx : EvO e x (.pointer A)] [hy : EvO e y (.pointer none)] [ht : Und P t (.pointer et)] : StepV P e L F ⟨dst, .binOp .eql t x y u, v1, p, af, g⟩ (.bool A.isNone) := ⟨fun hf _ => run_binop hf guard_ptr (bin_eql eqIn_ptr_opt rfl)⟩
instance (priority := low) sv_neq_ptr_opt [hx : EvO e x (.pointer A)] [hy : EvO e y (.pointer none)] [ht : Und P t (.pointer et)] : StepV P e L F ⟨dst, .binOp .neq t x y u, v1, p, af, g⟩ (.bool (!A.isNone)) := ⟨fun hf _ => run_binop hf guard_ptr (bin_neq eqIn_ptr_opt rfl)⟩
instance (priority := high) sv_eql_bool_tt [hx : EvO e x (.bool true)] [hy : EvO e y (.bool true)] [ht : Und P t .bool] : StepV P e L F ⟨dst, .binOp .eql t x y u, v1, p, af, g⟩ (.bool true) := sv_eql_bool (b := true) (c := true)
instance (priority := high) sv_eql_bool_ff [hx : EvO e x (.bool false)] [hy : EvO e y (.bool false)] [ht : Und P t .bool] : StepV P e L F ⟨dst, .binOp .eql t x y u, v1, p, af, g⟩ (.bool true) := sv_eql_bool (b := false) (c := false)
instance (priority := high) sv_eql_bool_tf [hx : EvO e x (.bool true)] [hy : EvO e y (.bool false)] [ht : Und P t .bool] : StepV P e L F ⟨dst, .binOp .eql t x y u, v1, p, af, g⟩ (.bool false) := sv_eql_bool (b := true) (c := false)
instance (priority := high) sv_eql_bool_ft [hx : EvO e x (.bool false)] [hy : EvO e y (.bool true)] [ht : Und P t .bool] : StepV P e L F ⟨dst, .binOp .eql t x y u, v1, p, af, g⟩ (.bool false) := sv_eql_bool (b := false) (c := true)
instance (priority := high) sv_neq_bool_tt [hx : EvO e x (.bool true)] [hy : EvO e y (.bool true)] [ht : Und P t .bool] : StepV P e L F ⟨dst, .binOp .neq t x y u, v1, p, af, g⟩ (.bool false) := sv_neq_bool (b := true) (c := true)
instance (priority := high) sv_neq_bool_ff [hx : EvO e x (.bool false)] [hy : EvO e y (.bool false)] [ht : Und P t .bool] : StepV P e L F ⟨dst, .binOp .neq t x y u, v1, p, af, g⟩ (.bool false) := sv_neq_bool (b := false) (c := false)
instance (priority := high) sv_neq_bool_tf [hx : EvO e x (.bool true)] [hy : EvO e y (.bool false)] [ht : Und P t .bool] : StepV P e L F ⟨dst, .binOp .neq t x y u, v1, p, af, g⟩ (.bool true) := sv_neq_bool (b := true) (c := false)
instance (priority := high) sv_neq_bool_ft [hx : EvO e x (.bool false)] [hy : EvO e y (.bool true)] [ht : Und P t .bool] : StepV P e L F ⟨dst, .binOp .neq t x y u, v1, p, af, g⟩ (.bool true) := sv_neq_bool (b := false) (c := true)
end
section
variable {P : Program} {N : Nat} {e e' : Env} {L L' K : List Hp} {F F' : Fr} {R : Act → World → Prop} {ops : Array Oper} {d : Nat} {t : TypeId} {p : String} {af : Array Edge} {r : Sch Oper} {x y z : Operand} {v : Value}
theorem j_hq_pickF [hx : EvO e x (.bool false)] [hz : EvO e z v] (hle : LE L K) (hd : Nat.blt d N = true) (h : J N ((d, v) :: e) L F (hR P ops (Sat K F) R r)) : J N e L F (hR P ops (Sat K F) R (.q ⟨some d, .pick x y z, t, p, af, none⟩ r)) := j_hq hle hd h
theorem j_hq_pickT [hx : EvO e x (.bool true)] [hy : EvO e y v] (hle : LE L K) (hd : Nat.blt d N = true) (h : J N ((d, v) :: e) L F (hR P ops (Sat K F) R r)) : J N e L F (hR P ops (Sat K F) R (.q ⟨some d, .pick x y z, t, p, af, none⟩ r)) := j_hq hle hd h
theorem RdL.left {α : Type} {E : Enc α} {A : Option Addr} {xs ys : List α} (r : RdL L F A E (xs ++ ys)) : RdL L F A E xs := by
  have := r.front xs.length
  rwa [List.take_left] at this
theorem FrExt.ro_left {α : Type} {Lr : List Hp} {A : Option Addr} {E : Enc α} {xs ys : List α} [r : RdL Lr F A E (xs ++ ys)] (h : FrExt Lr F F') : RO F' E A xs := h.ro_own (r := r.left)
theorem RO.ext {α : Type} {Lr : List Hp} {A : Option Addr} {E : Enc α} {xs : List α} (r : RO F E A xs) (h : FrExt Lr F F') : RO F' E A xs := ⟨r.out.mono h.sub⟩
end
/-! ### Guards on what was not done -/
section
variable {P : Program} {N : Nat} {e : Env} {L K : List Hp} {F : Fr} {R : Act → World → Prop} {W : List Oper → Act → World → Prop} {ops : Array Oper} {d : Nat} {op : Op} {t : TypeId} {p : String} {af : Array Edge} {rest : List Oper} {r : Sch Oper} {j d' : Nat} {b : Bool}
theorem yielded_undef {a : Act} (hf : Fits N e a) (hj : (ops[j]?).bind (·.dst) = some d') [g : GetE e d' undef] : yielded ops a.tmps j = none := by
  unfold yielded
  rw [hj]
  simp only [Option.bind_some, hf.get _ _ g.out, undef]
theorem j_gskip_u [s : Steps' P ops W] [hj : DstA ops j d'] [y : GetE e d' undef] (hd : Nat.blt d N = true) (h : J N ((d, undef) :: e) L F (W rest)) :
    J N e L F (W (⟨some d, op, t, p, af, some (j, b)⟩ :: rest)) :=
  fun a w hf hs => s.pass (by simp [Region.wanted, yielded_undef hf hj.out]) (h _ w (hf.put hd undef) hs)
theorem j_hq_gskip_u [hj : DstA ops j d'] [y : GetE e d' undef] (hle : LE L K) (hd : Nat.blt d N = true) (h : J N ((d, undef) :: e) L F (hR P ops (Sat K F) R r)) : J N e L F (hR P ops (Sat K F) R (.q ⟨some d, op, t, p, af, some (j, b)⟩ r)) := fun a w hf hs =>
  ⟨hs.le hle, undef, .inr ⟨by simp [Region.wanted, yielded_undef hf hj.out], rfl⟩, h _ w (hf.put hd undef) hs⟩
end
end Go.Proofs.YtjmicpkinflofaaDoor.S
