/- The walk: slices of encoded elements; stores; new blocks. Generic over programs. -/
import Derived.Test.YtjmicpkinflofaaDoorS3
namespace Go.Proofs.YtjmicpkinflofaaDoor.S
open Go.RowKit
set_option linter.unusedVariables false
set_option linter.unusedSimpArgs false

/-- How elements lie in cells. -/
structure Enc (α : Type) where
  sz : Nat
  pos : 0 < sz
  cells : α → List Value
  len : ∀ x, (cells x).length = sz
  one : ∀ x v, v ∈ cells x → v.oneCell' = true
class EncSz {α : Type} (E : Enc α) (n : outParam Nat) : Prop where out : E.sz = n
class EncAll {α : Type} (E : Enc α) (x : α) (cs : outParam (List Value)) : Prop where out : E.cells x = cs
/-- Cells read back as elements. -/
class DecL {α : Type} (E : Enc α) (cs : List Value) (xs : outParam (List α)) : Prop where out : xs.flatMap E.cells = cs
instance decL_nil {α : Type} {E : Enc α} : DecL E [] [] := ⟨rfl⟩
def ablk (A : Option Addr) : Nat := match A with | some a => a.block | none => 0
def aoff (A : Option Addr) : Nat := match A with | some a => a.off | none => 0
/-- A slice's elements stand in a heap. -/
structure Rd {α : Type} (h : Heap) (E : Enc α) (A : Option Addr) (xs : List α) : Prop where
  fst : xs ≠ [] → A = some ⟨ablk A, aoff A, none⟩
  get : ∀ i x j v, xs[i]? = some x → (E.cells x)[j]? = some v → ∃ fr, h (ablk A) (aoff A + (i * E.sz + j)) = some (.val v fr)
theorem Rd.mono {α : Type} {h k : Heap} {E : Enc α} {A : Option Addr} {xs : List α} (r : Rd h E A xs) (hs : Heap.sub h k) : Rd k E A xs :=
  ⟨r.fst, fun i x j v hx hv => let ⟨fr, hfr⟩ := r.get i x j v hx hv; ⟨fr, hs _ _ _ hfr⟩⟩
theorem Rd.take {α : Type} {h : Heap} {E : Enc α} {A : Option Addr} {xs : List α} (r : Rd h E A xs) (n : Nat) : Rd h E A (xs.take n) :=
  ⟨fun hne => r.fst (fun hh => hne (by rw [hh]; simp)), fun i x j v hx hv => r.get i x j v (by rw [List.getElem?_take] at hx; split at hx; exact hx; cases hx) hv⟩
/-- A slice that came in: it stands in what stays. -/
class RO {α : outParam Type} (F : Fr) (E : outParam (Enc α)) (A : Option Addr) (xs : outParam (List α)) : Prop where out : Rd F.h E A xs
/-- An element. -/
class At {α : Type} (xs : List α) (k : Nat) (x : outParam α) : Prop where out : xs[k]? = some x
class AtB (s : ByteArray) (k : Nat) (c : outParam UInt8) : Prop where out : s[k]? = some c
/-- A slice of the call's own: its elements, and cells behind them. -/
def own {α : Type} (E : Enc α) (A : Option Addr) (c : Nat) (xs : List α) : Hp := fun h =>
  (A = none ∧ xs = [] ∧ c = 0 ∧ h = Heap.emp) ∨ ∃ b o sp, A = some ⟨b, o, none⟩ ∧ xs.length ≤ c ∧ sp.length = (c - xs.length) * E.sz ∧ (∀ v ∈ sp, v.oneCell' = true) ∧ cells b o (xs.flatMap E.cells ++ sp) h
theorem flat_len {α : Type} (E : Enc α) (xs : List α) : (xs.flatMap E.cells).length = xs.length * E.sz := by
  induction xs with
  | nil => simp
  | cons x xs ih => simp only [List.flatMap_cons, List.length_append, ih, E.len, List.length_cons, Nat.add_mul]; omega
theorem flat_get {α : Type} (E : Enc α) : ∀ (xs : List α) (i : Nat) (x : α) (j : Nat), xs[i]? = some x → j < E.sz → (xs.flatMap E.cells)[i * E.sz + j]? = (E.cells x)[j]?
  | [], i, x, j, h, _ => by simp at h
  | y :: xs, 0, x, j, h, hj => by
    simp only [List.getElem?_cons_zero, Option.some.injEq] at h
    subst h
    simp only [List.flatMap_cons, Nat.zero_mul, Nat.zero_add]
    rw [List.getElem?_append_left (by rw [E.len]; exact hj)]
  | y :: xs, i + 1, x, j, h, hj => by
    simp only [List.getElem?_cons_succ] at h
    simp only [List.flatMap_cons]
    rw [List.getElem?_append_right (by rw [E.len, Nat.add_mul]; omega), E.len, show (i + 1) * E.sz + j - E.sz = i * E.sz + j by rw [Nat.add_mul]; omega]
    exact flat_get E xs i x j h hj
theorem own.rd {α : Type} {E : Enc α} {A : Option Addr} {c : Nat} {xs : List α} {h : Heap} (ho : own E A c xs h) : Rd h E A xs := by
  rcases ho with ⟨rfl, rfl, rfl, rfl⟩ | ⟨b, o, sp, rfl, hc, hsp, _, hcs⟩
  · exact ⟨fun hh => absurd rfl hh, fun i x j v hx => by simp at hx⟩
  · rw [cells_iff] at hcs
    subst hcs
    refine ⟨fun _ => rfl, fun i x j v hx hv => ⟨false, ?_⟩⟩
    have hj : j < E.sz := by
      have := (List.getElem?_eq_some_iff.1 hv).1
      rwa [E.len] at this
    have hi := (List.getElem?_eq_some_iff.1 hx).1
    have hlt : i * E.sz + j < (xs.flatMap E.cells).length := by
      rw [flat_len]
      have : (i + 1) * E.sz ≤ xs.length * E.sz := Nat.mul_le_mul_right _ hi
      rw [Nat.add_mul] at this
      omega
    simp only [ablk, aoff, true_and, Nat.le_add_right, if_true, Nat.add_sub_cancel_left]
    rw [List.getElem?_append_left hlt, flat_get E xs i x j hx hj, hv]
    rfl
/-- The slice at A reads so. -/
class RdL {α : outParam Type} (L : List Hp) (F : Fr) (A : Option Addr) (E : outParam (Enc α)) (xs : outParam (List α)) : Prop where
  out : ∀ {h : Heap}, stars L h → Heap.dj h F.h → Rd (Heap.un h F.h) E A xs
section
variable {α : Type} {P : Program} {e : Env} {L L' : List Hp} {F : Fr} {d : Option Nat} {t u et : TypeId} {p : String} {af : Array Edge} {g : Option (Nat × Bool)} {x y z : Operand} {v : Value} {b o n c k j sz : Nat} {vs ws cs : List Value} {v1 : TypeId}
  {E : Enc α} {A : Option Addr} {xs ys : List α} {x0 : α} {ki : IntKind} {i : Int}
instance (priority := high) rdL_here : RdL (own E A c xs :: L) F A E xs := ⟨by
  rintro h ⟨h1, h2, hd, rfl, ho, hl⟩ _
  exact ho.rd.mono (Heap.sub_trans Heap.sub_un_left Heap.sub_un_left)⟩
instance rdL_there {q : Hp} [r : RdL L F A E xs] : RdL (q :: L) F A E xs := ⟨by
  rintro h ⟨h1, h2, hd, rfl, ho, hl⟩ hdf
  refine (r.out hl (Heap.dj_un_left.1 hdf).2).mono ?_
  rw [Heap.un_assoc]
  exact Heap.sub_un_right (Heap.dj_un_right.2 ⟨hd, (Heap.dj_un_left.1 hdf).1⟩)⟩
instance (priority := low) rdL_ro [r : RO F E A xs] : RdL L F A E xs := ⟨fun hl hd => r.out.mono (Heap.sub_un_right hd)⟩
instance ft_lt [h : At xs k x0] : Ft (k < xs.length) := ⟨(List.getElem?_eq_some_iff.1 h.out).1⟩
instance at_set_same {y0 : α} [h : At xs k x0] : At (xs.set k y0) k y0 := ⟨by
  rw [List.getElem?_set_self (List.getElem?_eq_some_iff.1 h.out).1]⟩
theorem RdL.cell [r : RdL L F A E xs] (hz : E.sz = sz) (hk : xs[k]? = some x0) (hv : (E.cells x0)[j]? = some v) {h : Heap} (hl : stars L h) (hd : Heap.dj h F.h) : ∃ fr, Heap.un h F.h (ablk A) (aoff A + k * sz + j) = some (.val v fr) := by
  have := (r.out hl hd).get k x0 j v hk hv
  rw [hz] at this
  rwa [Nat.add_assoc]
instance ca_rd [r : RdL L F A E xs] [hz : EncSz E sz] [hk : At xs k x0] [he : EncAll E x0 cs] [hn : NthV cs j v] : CA L F (ablk A) (aoff A + k * sz + j) v := ⟨fun hl hd => r.cell hz.out hk.out (by rw [he.out]; exact hn.out) hl hd⟩
instance ca_rd0 [r : RdL L F A E xs] [hz : EncSz E sz] [hk : At xs k x0] [he : EncAll E x0 cs] [hn : NthV cs 0 v] : CA L F (ablk A) (aoff A + k * sz) v := ⟨fun hl hd => by
  have := r.cell hz.out hk.out (j := 0) (v := v) (by rw [he.out]; exact hn.out) hl hd
  rwa [Nat.add_zero] at this⟩
instance cas_rd0 [r : RdL L F A E xs] [hz : EncSz E sz] [hk : At xs k x0] [he : EncAll E x0 cs] [hs : SubV cs 0 n ws] : CAs L F (ablk A) (aoff A + k * sz) n ws := ⟨sub_len hs, fun hl hd j v hv => by
  have h2 := sub_get hs hv
  rw [Nat.zero_add] at h2
  exact r.cell hz.out hk.out (by rw [he.out]; exact h2) hl hd⟩
instance cas_rd [r : RdL L F A E xs] [hz : EncSz E sz] [hk : At xs k x0] [he : EncAll E x0 cs] [hs : SubV cs j n ws] : CAs L F (ablk A) (aoff A + k * sz + j) n ws := ⟨sub_len hs, fun hl hd j' v hv => by
  have := r.cell hz.out hk.out (j := j + j') (v := v) (by rw [he.out]; exact sub_get hs hv) hl hd
  rwa [← Nat.add_assoc] at this⟩
instance ca_rd2 {m : Nat} [r : RdL L F A E xs] [hz : EncSz E sz] [hk : At xs k x0] [he : EncAll E x0 cs] [hn : NthV cs (j + m) v] : CA L F (ablk A) (aoff A + k * sz + j + m) v := by
  rw [Nat.add_assoc (aoff A + k * sz)]
  exact ca_rd
instance cas_rd2 {m : Nat} [r : RdL L F A E xs] [hz : EncSz E sz] [hk : At xs k x0] [he : EncAll E x0 cs] [hs : SubV cs (j + m) n ws] : CAs L F (ablk A) (aoff A + k * sz + j + m) n ws := by
  rw [Nat.add_assoc (aoff A + k * sz)]
  exact cas_rd
/-- The slice of the call's own at A, and what stands beside it. -/
class OwnIn {β : outParam Type} (L : List Hp) (A : Option Addr) (E : outParam (Enc β)) (c : outParam Nat) (xs : outParam (List β)) (L' : outParam (List Hp)) : Prop where out : Pick (own E A c xs) L L'
instance (priority := high) ownIn_here {β : Type} {E : Enc β} {xs : List β} : OwnIn (own E A c xs :: L) A E c xs L := ⟨.here⟩
instance (priority := low) ownIn_there {β : Type} {E : Enc β} {xs : List β} {q : Hp} [h : OwnIn L A E c xs L'] : OwnIn (q :: L) A E c xs (q :: L') := ⟨.there h.out⟩
/-- An int that is no less than 0. -/
class NatIdx (i : Int) (k : outParam Nat) : Prop where out : i = (k : Int)
instance natIdx_cast : NatIdx (k : Int) k := ⟨rfl⟩
instance natIdx_lit : NatIdx (OfNat.ofNat k) (OfNat.ofNat k) := ⟨rfl⟩
instance natIdx_zero : NatIdx 0 0 := ⟨rfl⟩
instance natIdx_one : NatIdx 1 1 := ⟨rfl⟩
instance natIdx_succ : NatIdx ((k : Int) + 1) (k + 1) := ⟨rfl⟩
instance sv_index [hx : EvO e x (.slice A n c)] [hy : EvO e y (.int ki i)] [hi : NatIdx i k] [ht : Und P t (.slice et)] [hs : Siz P et sz] [r : RdL L F A E xs] [hk : At xs k x0] [hn : Ft (k < n)] :
    StepV P e L F ⟨d, .indexAddr t x y, v1, p, af, g⟩ (.pointer (some ⟨ablk A, aoff A + k * sz, none⟩)) := ⟨fun hf hsat => by
  obtain ⟨h, hl, hd, _⟩ := hsat
  have hA := (r.out hl hd).fst (fun hh => by have := hk.out; rw [hh] at this; simp at this)
  have h1 : ((0 : Int) ≤ (k : Int) ∧ (k : Int) < (n : Int)) := ⟨by omega, by have := hn.out; omega⟩
  simp only [execOp, hx.out hf, hy.out hf, Instr.indexAt, asIntOf, hi.out, Sem.run_bind, Sem.run_pure, Result.andThen_ok, run_und]
  rw [hA]
  simp only [h1, and_self, if_true, Sem.run_bind, Sem.run_pure, Result.andThen_ok, hs.out, add_off, Int.toNat_natCast, ablk, aoff]⟩
instance sv_len_slice {A' : Option Addr} [hx : EvO e x (.slice A' n c)] [ht : Und P t (.slice et)] : StepV P e L F ⟨d, .call { callee := .builtin .len, args := #[x], argTypes := #[t] }, v1, p, af, g⟩ (.int .i64 (n : Int)) := ⟨fun hf hs => by
  simp only [execOp, resolve, invoke, builtin, Builtin.len_, List.map_toArray, List.map_cons, List.map_nil, hx.out hf, Sem.run_bind, Sem.run_pure, Result.andThen_ok, List.getElem?_toArray, List.getElem?_cons_zero, run_und, goInt]⟩
instance sv_len_string {s : ByteArray} [hx : EvO e x (.string s)] [ht : Und P t .string] : StepV P e L F ⟨d, .call { callee := .builtin .len, args := #[x], argTypes := #[t] }, v1, p, af, g⟩ (.int .i64 (s.size : Int)) := ⟨fun hf hs => by
  simp only [execOp, resolve, invoke, builtin, Builtin.len_, List.map_toArray, List.map_cons, List.map_nil, hx.out hf, Sem.run_bind, Sem.run_pure, Result.andThen_ok, List.getElem?_toArray, List.getElem?_cons_zero, run_und, goInt]⟩
instance sv_string_index {s : ByteArray} {ch : UInt8} [hx : EvO e x (.string s)] [hy : EvO e y (.int ki i)] [hi : NatIdx i k] [ht : Und P t .string] [hk : AtB s k ch] :
    StepV P e L F ⟨d, .index t x y, v1, p, af, g⟩ (.int .u8 (ch.toNat : Int)) := ⟨fun hf hs => by
  have h1 : (0 : Int) ≤ (k : Int) := by omega
  simp only [execOp, hx.out hf, hy.out hf, Instr.index, asIntOf, hi.out, Sem.run_bind, Sem.run_pure, Result.andThen_ok, run_und, h1, if_true, Int.toNat_natCast, hk.out]⟩
end
/-! ### Stores -/
def hput (h : Heap) (b o : Nat) (cs : List Value) : Heap := fun b' o' => if b' = b ∧ o ≤ o' ∧ o' < o + cs.length then (cs[o' - o]?).map (fun v => Cell.val v false) else h b' o'
class ST (L : List Hp) (b o : Nat) (cs : List Value) (L' : outParam (List Hp)) : Prop where
  out : ∀ {h : Heap}, stars L h → (∀ j, j < cs.length → ∃ u, h b (o + j) = some (.val u false)) ∧ stars L' (hput h b o cs)
theorem hput_un_left {h k : Heap} {b o : Nat} {cs : List Value} : hput (Heap.un h k) b o cs = Heap.un (hput h b o cs) k ∨ True := .inr trivial
theorem hput_mem {h : Heap} {b o : Nat} {cs : List Value} (hc : ∀ j, j < cs.length → ∃ u, h b (o + j) = some (.val u false)) {b' o' : Nat} : hput h b o cs b' o' = none ↔ h b' o' = none := by
  unfold hput
  split
  · rename_i hh
    obtain ⟨rfl, h1, h2⟩ := hh
    obtain ⟨u, hu⟩ := hc (o' - o) (by omega)
    rw [show o + (o' - o) = o' by omega] at hu
    rw [hu, List.getElem?_eq_getElem (by omega)]
    simp
  · exact Iff.rfl
theorem hput_left {h k : Heap} {b o : Nat} {cs : List Value} (hc : ∀ j, j < cs.length → ∃ u, h b (o + j) = some (.val u false)) : Heap.un (hput h b o cs) k = hput (Heap.un h k) b o cs := by
  refine Heap.ext' fun b' o' => ?_
  by_cases hh : b' = b ∧ o ≤ o' ∧ o' < o + cs.length
  · obtain ⟨rfl, h1, h2⟩ := hh
    unfold Heap.un hput
    rw [if_pos ⟨rfl, h1, h2⟩, if_pos ⟨rfl, h1, h2⟩, List.getElem?_eq_getElem (by omega)]
    rfl
  · unfold Heap.un hput
    rw [if_neg hh, if_neg hh]
theorem hput_right {h k : Heap} (hd : Heap.dj h k) {b o : Nat} {cs : List Value} (hc : ∀ j, j < cs.length → ∃ u, k b (o + j) = some (.val u false)) : Heap.un h (hput k b o cs) = hput (Heap.un h k) b o cs := by
  have hd' : Heap.dj (hput k b o cs) h := fun b' o' => by
    rcases hd b' o' with h1 | h1
    · exact .inr h1
    · exact .inl ((hput_mem hc).2 h1)
  rw [Heap.un_comm (Heap.dj_comm hd'), hput_left hc, Heap.un_comm (Heap.dj_comm hd)]
theorem hput_dj_right {h k : Heap} (hd : Heap.dj h k) {b o : Nat} {cs : List Value} (hc : ∀ j, j < cs.length → ∃ u, k b (o + j) = some (.val u false)) : Heap.dj h (hput k b o cs) := fun b' o' => by
  rcases hd b' o' with h1 | h1
  · exact .inl h1
  · exact .inr ((hput_mem hc).2 h1)
theorem hput_dj_left {h k : Heap} (hd : Heap.dj h k) {b o : Nat} {cs : List Value} (hc : ∀ j, j < cs.length → ∃ u, h b (o + j) = some (.val u false)) : Heap.dj (hput h b o cs) k := Heap.dj_comm (hput_dj_right (Heap.dj_comm hd) hc)
theorem overL_get {vs cs : List Value} {k : Nat} (h : k + cs.length ≤ vs.length) (j : Nat) : (overL vs k cs)[j]? = if k ≤ j ∧ j < k + cs.length then cs[j - k]? else vs[j]? := by
  unfold overL
  by_cases h1 : j < k
  · rw [if_neg (by omega), List.append_assoc, List.getElem?_append_left (by simp; omega), List.getElem?_take, if_pos h1]
  · by_cases h2 : j < k + cs.length
    · rw [if_pos ⟨by omega, h2⟩, List.getElem?_append_left (by simp; omega), List.getElem?_append_right (by simp; omega)]
      congr 1
      simp; omega
    · rw [if_neg (by omega), List.getElem?_append_right (by simp; omega), List.getElem?_drop]
      congr 1
      simp; omega
theorem overL_len {vs cs : List Value} {k : Nat} (h : k + cs.length ≤ vs.length) : (overL vs k cs).length = vs.length := by unfold overL; simp; omega
theorem cells_put {b o k : Nat} {vs cs : List Value} (hk : k + cs.length ≤ vs.length) {h : Heap} (hc : cells b o vs h) : (∀ j, j < cs.length → ∃ u, h b (o + k + j) = some (.val u false)) ∧ cells b o (overL vs k cs) (hput h b (o + k) cs) := by
  unfold cells at hc ⊢
  subst hc
  refine ⟨fun j hj => ⟨vs[k + j]'(by omega), ?_⟩, Heap.ext' fun b' o' => ?_⟩
  · simp only [true_and, show o ≤ o + k + j by omega, if_true, show o + k + j - o = k + j by omega]
    rw [List.getElem?_eq_getElem (by omega)]
    rfl
  · simp only [hput]
    by_cases h1 : b' = b ∧ o ≤ o'
    · obtain ⟨rfl, h2⟩ := h1
      rw [overL_get hk]
      by_cases h3 : o + k ≤ o' ∧ o' < o + k + cs.length
      · rw [if_pos ⟨rfl, h3⟩, if_pos ⟨rfl, h2⟩, if_pos ⟨by omega, by omega⟩]
        congr 2
        omega
      · rw [if_neg (fun hh => h3 hh.2), if_pos ⟨rfl, h2⟩, if_pos ⟨rfl, h2⟩, if_neg (by omega)]
    · rw [if_neg (fun hh => h1 ⟨hh.1, by omega⟩), if_neg h1, if_neg h1]
instance (priority := high) st_here {L : List Hp} {b o k : Nat} {vs cs ws : List Value} [s : SetV vs k cs ws] : ST (cells b o vs :: L) b (o + k) cs (cells b o ws :: L) := ⟨by
  rintro h ⟨h1, h2, hd, rfl, hc, hl⟩
  obtain ⟨p1, p2⟩ := cells_put s.out.1 hc
  rw [s.out.2] at p2
  refine ⟨fun j hj => let ⟨u, hu⟩ := p1 j hj; ⟨u, Heap.un_left hu⟩, ⟨_, h2, hput_dj_left hd p1, (hput_left p1).symm, p2, hl⟩⟩⟩
instance (priority := high) st_here0 {L : List Hp} {b o : Nat} {vs cs ws : List Value} [s : SetV vs 0 cs ws] : ST (cells b o vs :: L) b o cs (cells b o ws :: L) := ⟨fun hl => (st_here (L := L) (b := b) (o := o) (k := 0) (vs := vs) (cs := cs) (ws := ws)).out hl⟩
instance (priority := high) st_here2 {L : List Hp} {b o j k : Nat} {vs cs ws : List Value} [s : SetV vs (j + k) cs ws] : ST (cells b o vs :: L) b (o + j + k) cs (cells b o ws :: L) := by
  rw [Nat.add_assoc]
  exact st_here
instance (priority := low) st_there {q : Hp} {L L' : List Hp} {b o : Nat} {cs : List Value} [s : ST L b o cs L'] : ST (q :: L) b o cs (q :: L') := ⟨by
  rintro h ⟨h1, h2, hd, rfl, hc, hl⟩
  obtain ⟨p1, p2⟩ := s.out hl
  refine ⟨fun j hj => let ⟨u, hu⟩ := p1 j hj; ⟨u, Heap.un_right hd hu⟩, ⟨h1, _, hput_dj_right hd p1, (hput_right hd p1).symm, hc, p2⟩⟩⟩
/-- An element with some of its cells laid anew. -/
class EncSet {α : Type} (E : Enc α) (x : α) (j : Nat) (cs : List Value) (x' : outParam α) : Prop where
  out : j + cs.length ≤ E.sz ∧ E.cells x' = overL (E.cells x) j cs
theorem flat_over {α : Type} (E : Enc α) {xs : List α} {k : Nat} {x x' : α} {j : Nat} {cs : List Value} (hk : xs[k]? = some x) (hj : j + cs.length ≤ E.sz) (hx : E.cells x' = overL (E.cells x) j cs) :
    (xs.set k x').flatMap E.cells = overL (xs.flatMap E.cells) (k * E.sz + j) cs := by
  have hklt := (List.getElem?_eq_some_iff.1 hk).1
  have hle : k * E.sz + j + cs.length ≤ (xs.flatMap E.cells).length := by
    rw [flat_len]
    have : (k + 1) * E.sz ≤ xs.length * E.sz := Nat.mul_le_mul_right _ hklt
    rw [Nat.add_mul] at this
    omega
  apply List.ext_getElem?
  intro m
  have hz := E.pos
  have hdm := Nat.div_add_mod m E.sz
  have hlt := Nat.mod_lt m hz
  rw [overL_get hle]
  by_cases hm : m / E.sz < xs.length
  · obtain ⟨y, hy⟩ : ∃ y, xs[m / E.sz]? = some y := ⟨_, List.getElem?_eq_getElem hm⟩
    have e1 : m / E.sz * E.sz + m % E.sz = m := by rw [Nat.mul_comm]; exact hdm
    by_cases hmk : m / E.sz = k
    · have h2 : (xs.set k x')[m / E.sz]? = some x' := by rw [hmk, List.getElem?_set_self hklt]
      have h1 := flat_get E _ _ _ _ h2 hlt
      rw [e1] at h1
      rw [h1, hx, overL_get (by rw [E.len]; exact hj)]
      have h3 := flat_get E _ _ _ _ hy hlt
      rw [e1] at h3
      have hyx : y = x := by rw [hmk, hk] at hy; exact (Option.some.inj hy).symm
      rw [h3, hyx]
      rw [hmk] at e1
      by_cases hc : j ≤ m % E.sz ∧ m % E.sz < j + cs.length
      · rw [if_pos hc, if_pos ⟨by omega, by omega⟩]
        congr 1
        omega
      · rw [if_neg hc, if_neg (by omega)]
    · have h2 : (xs.set k x')[m / E.sz]? = some y := by rw [List.getElem?_set_ne (fun hh => hmk hh.symm)]; exact hy
      have h1 := flat_get E _ _ _ _ h2 hlt
      have h3 := flat_get E _ _ _ _ hy hlt
      rw [e1] at h1 h3
      rw [h1, ← h3, if_neg]
      intro hc
      apply hmk
      have h4 : k * E.sz ≤ m := by omega
      have h5 : m < (k + 1) * E.sz := by rw [Nat.add_mul]; omega
      exact Nat.le_antisymm (Nat.le_of_lt_succ (Nat.div_lt_of_lt_mul (by rw [Nat.mul_comm]; exact h5))) ((Nat.le_div_iff_mul_le hz).2 h4)
  · have h1 : xs.length * E.sz ≤ m := by
      have : xs.length * E.sz ≤ (m / E.sz) * E.sz := Nat.mul_le_mul_right _ (by omega)
      have e1 : m / E.sz * E.sz + m % E.sz = m := by rw [Nat.mul_comm]; exact hdm
      omega
    rw [List.getElem?_eq_none (by rw [flat_len]; simp; exact h1), if_neg (by rw [flat_len] at hle; omega), List.getElem?_eq_none (by rw [flat_len]; exact h1)]
theorem own_put {α : Type} {E : Enc α} {A : Option Addr} {c : Nat} {xs : List α} {k : Nat} {x x' : α} {j : Nat} {cs : List Value} (hk : xs[k]? = some x) (hj : j + cs.length ≤ E.sz) (hx : E.cells x' = overL (E.cells x) j cs) {h : Heap} (ho : own E A c xs h) :
    (∀ i, i < cs.length → ∃ u, h (ablk A) (aoff A + k * E.sz + j + i) = some (.val u false)) ∧ own E A c (xs.set k x') (hput h (ablk A) (aoff A + k * E.sz + j) cs) := by
  rcases ho with ⟨rfl, rfl, rfl, rfl⟩ | ⟨b, o, sp, rfl, hc, hsp, h1, hcs⟩
  · simp at hk
  · have hklt := (List.getElem?_eq_some_iff.1 hk).1
    have hle : k * E.sz + j + cs.length ≤ (xs.flatMap E.cells).length := by
      rw [flat_len]
      have : (k + 1) * E.sz ≤ xs.length * E.sz := Nat.mul_le_mul_right _ hklt
      rw [Nat.add_mul] at this
      omega
    obtain ⟨p1, p2⟩ := cells_put (k := k * E.sz + j) (cs := cs) (by simp only [List.length_append]; omega) hcs
    refine ⟨fun i hi => ?_, .inr ⟨b, o, sp, rfl, by simpa using hc, by simpa using hsp, h1, ?_⟩⟩
    · have := p1 i hi
      simp only [ablk, aoff]
      rwa [Nat.add_assoc o]
    · rw [flat_over E hk hj hx]
      simp only [ablk, aoff]
      rw [Nat.add_assoc o]
      have e1 : overL (xs.flatMap E.cells ++ sp) (k * E.sz + j) cs = overL (xs.flatMap E.cells) (k * E.sz + j) cs ++ sp := by
        apply List.ext_getElem?
        intro m
        rw [overL_get (by simp only [List.length_append]; omega)]
        by_cases hm : m < (xs.flatMap E.cells).length
        · rw [List.getElem?_append_left hm, List.getElem?_append_left (by rw [overL_len hle]; exact hm), overL_get hle]
        · rw [if_neg (by omega), List.getElem?_append_right (by omega), List.getElem?_append_right (by rw [overL_len hle]; omega), overL_len hle]
      rw [← e1]
      exact p2
instance st_own {α : Type} {E : Enc α} {A : Option Addr} {c : Nat} {xs : List α} {k j sz : Nat} {x x' : α} {cs : List Value} {L : List Hp} [hz : EncSz E sz] [hk : At xs k x] [hs : EncSet E x j cs x'] :
    ST (own E A c xs :: L) (ablk A) (aoff A + k * sz + j) cs (own E A c (xs.set k x') :: L) := ⟨by
  rintro h ⟨h1, h2, hd, rfl, hc, hl⟩
  obtain ⟨p1, p2⟩ := own_put hk.out hs.out.1 hs.out.2 hc
  rw [hz.out] at p1 p2
  exact ⟨fun j hj => let ⟨u, hu⟩ := p1 j hj; ⟨u, Heap.un_left hu⟩, ⟨_, h2, hput_dj_left hd p1, (hput_left p1).symm, p2, hl⟩⟩⟩
instance st_own0 {α : Type} {E : Enc α} {A : Option Addr} {c : Nat} {xs : List α} {k sz : Nat} {x x' : α} {cs : List Value} {L : List Hp} [hz : EncSz E sz] [hk : At xs k x] [hs : EncSet E x 0 cs x'] :
    ST (own E A c xs :: L) (ablk A) (aoff A + k * sz) cs (own E A c (xs.set k x') :: L) := ⟨fun hl => (st_own (L := L) (j := 0) (c := c) (x := x) (k := k) (sz := sz)).out hl⟩
instance st_own2 {α : Type} {E : Enc α} {A : Option Addr} {c : Nat} {xs : List α} {k j m sz : Nat} {x x' : α} {cs : List Value} {L : List Hp} [hz : EncSz E sz] [hk : At xs k x] [hs : EncSet E x (j + m) cs x'] :
    ST (own E A c xs :: L) (ablk A) (aoff A + k * sz + j + m) cs (own E A c (xs.set k x') :: L) := by
  rw [Nat.add_assoc (aoff A + k * sz)]
  exact st_own
/-- Stores of cells, one behind the other. -/
theorem run_storeCells {P : Program} {b o : Nat} : ∀ (cs : List Value) (i : Nat) (w : World), (∀ v ∈ cs, v.oneCell' = true) → (∀ j, j < cs.length → ∃ u, wat w b (o + i + j) = some (.val u false)) →
    ∃ w', (storeCells ⟨b, o, none⟩ cs i).run P w = .ok () w' ∧ wat w' = hput (wat w) b (o + i) cs ∧ w'.os = w.os ∧ w'.tape = w.tape ∧ w'.output = w.output ∧ w'.heap.size = w.heap.size ∧ (∀ k, k ≠ b → w'.heap[k]? = w.heap[k]?)
  | [], i, w, _, _ => ⟨w, rfl, Heap.ext' fun b' o' => by unfold hput; rw [if_neg (by simp)], rfl, rfl, rfl, rfl, fun _ _ => rfl⟩
  | v :: cs, i, w, h1, h2 => by
    obtain ⟨u, hu⟩ := h2 0 (by simp)
    rw [Nat.add_zero] at hu
    obtain ⟨hc, hfz⟩ := wat_cell hu
    have hw1 : wat (w.setCell ⟨b, o + i, none⟩ v) = hput (wat w) b (o + i) [v] := by
      refine Heap.ext' fun b' o' => ?_
      unfold wat at hu
      unfold wat hput World.setCell
      simp only [Array.getElem?_modify]
      by_cases hb : b = b'
      · subst hb
        simp only [if_true, true_and]
        split at hu
        · rename_i c t fr hb'
          rw [hb']
          simp only [Option.map_some, Option.isSome_none, Bool.false_eq_true, if_false]
          have hlt : o + i < c.size := by
            rcases Nat.lt_or_ge (o + i) c.size with h | h
            · exact h
            · rw [Array.getElem?_eq_none h] at hu; cases hu
          by_cases ho : o + i = o'
          · subst ho
            rw [if_pos (by simp), Array.getElem?_setIfInBounds_self_of_lt hlt]
            rw [Array.getElem?_eq_getElem hlt] at hu
            simp only [Option.map_some, Option.some.injEq, Cell.val.injEq] at hu
            simp [hu.2]
          · rw [if_neg (by simp; omega), Array.getElem?_setIfInBounds_ne ho]
        · split at hu <;> cases hu
        · cases hu
      · rw [if_neg hb, if_neg (fun hh => hb hh.1.symm)]
    have hsz : (w.setCell ⟨b, o + i, none⟩ v).heap.size = w.heap.size := World.size_setCell _ _ _
    obtain ⟨w', e1, e2, e3, e4, e5, e6, e7⟩ := run_storeCells (P := P) (b := b) (o := o) cs (i + 1) (w.setCell ⟨b, o + i, none⟩ v) (fun u hu => h1 u (List.mem_cons_of_mem _ hu)) (fun j hj => by
      obtain ⟨u', hu'⟩ := h2 (j + 1) (by simp; omega)
      refine ⟨u', ?_⟩
      rw [hw1]
      unfold hput
      rw [if_neg (by simp; omega), ← hu']
      congr 1
      omega)
    refine ⟨w', ?_, ?_, e3, e4, e5, by rw [e6, hsz], fun k hk => by rw [e7 k hk]; exact Below.heap_setCell _ _ _ _ hk⟩
    · simp only [storeCells, Sem.run_bind, add_off]
      rw [run_store _ _ _ _ _ (h1 v List.mem_cons_self)]
      simp only [hc, hfz, Bool.false_eq_true, if_false, Result.andThen_ok]
      exact e1
    · rw [e2, hw1]
      refine Heap.ext' fun b' o' => ?_
      unfold hput
      by_cases hb : b' = b
      · subst hb
        simp only [true_and, List.length_cons, List.length_nil]
        by_cases c1 : o' = o + i
        · subst c1
          rw [if_neg (by omega), if_pos (by omega), if_pos (by omega)]
          simp
        · by_cases c2 : o + (i + 1) ≤ o' ∧ o' < o + (i + 1) + cs.length
          · rw [if_pos c2, if_pos (by omega), show o' - (o + i) = (o' - (o + (i + 1))) + 1 by omega, List.getElem?_cons_succ]
          · rw [if_neg c2, if_neg (by omega), if_neg (by omega)]
      · rw [if_neg (fun hh => hb hh.1), if_neg (fun hh => hb hh.1), if_neg (fun hh => hb hh.1)]
theorem Sat.store {P : Program} {L L' : List Hp} {F : Fr} {w : World} {b o : Nat} {cs : List Value} (hs : Sat L F w) (st : ST L b o cs L') (h1 : ∀ v ∈ cs, v.oneCell' = true) :
    ∃ w', (storeCells ⟨b, o, none⟩ cs).run P w = .ok () w' ∧ Sat L' F w' := by
  obtain ⟨h, hl, hd, s1, s2, s3, s4⟩ := hs
  obtain ⟨p1, p2⟩ := st.out hl
  obtain ⟨w', e1, e2, e3, e4, e5, e6, e7⟩ := run_storeCells (P := P) (b := b) (o := o) cs 0 w h1 (fun j hj => let ⟨u, hu⟩ := p1 j hj; ⟨u, by rw [Nat.add_zero]; exact s1 _ _ _ hu⟩)
  rw [Nat.add_zero] at e2
  refine ⟨w', e1, hput h b o cs, p2, hput_dj_left hd p1, fun b' o' c hc => ?_, fun b' o' c hc => ?_, fun b' o' c hc => ?_, ?_⟩
  · rw [e2]
    unfold hput at hc ⊢
    split
    · rename_i hh; rw [if_pos hh] at hc; exact hc
    · rename_i hh; rw [if_neg hh] at hc; exact s1 _ _ _ hc
  · rw [e2]
    unfold hput
    split
    · rename_i hh
      obtain ⟨rfl, g1, g2⟩ := hh
      obtain ⟨u, hu⟩ := p1 (o' - o) (by omega)
      rw [show o + (o' - o) = o' by omega] at hu
      rcases hd b' o' with h5 | h5
      · rw [h5] at hu; cases hu
      · rw [h5] at hc; cases hc
    · exact s2 _ _ _ hc
  · cases h5 : h b' o' with
    | none => rw [(hput_mem p1).2 h5] at hc; cases hc
    | some c' => exact s3 _ _ _ h5
  · by_cases hcs : cs = []
    · subst hcs
      simp only [storeCells, Sem.run_pure, Result.ok.injEq] at e1
      rw [← e1.2]
      exact s4
    · obtain ⟨u, hu⟩ := p1 0 (by cases cs; exact absurd rfl hcs; simp)
      have hb := s3 _ _ _ hu
      exact s4.trans ⟨e3, e4, e5, by rw [e6]; exact Nat.le_refl _, fun k hk => e7 k (by omega)⟩
section
variable {P : Program} {N : Nat} {e : Env} {L L' : List Hp} {F : Fr} {Q : Exit → Act → World → Prop} {ops : Array Oper} {d : Nat} {dst : Option Nat} {t : TypeId} {p : String} {af : Array Edge} {g : Option (Nat × Bool)} {rest : List Oper} {x y : Operand} {v : Value} {b o n : Nat} {cs : List Value} {v1 : TypeId}
/-- An operation that is carried out, and what it leaves. -/
theorem j_run {o : Oper} (hg : o.guard = none) (h : ∀ a w, Fits N e a → Sat L F w → ∃ v w', (execOp a.eval o).run P w = .ok (.value v) w' ∧ wpList P ops Q rest (a.put o.dst v) w') : J N e L F (wpList P ops Q (o :: rest)) := fun a w hf hs => by
  obtain ⟨v, w', hr, hk⟩ := h a w hf hs
  unfold wpList
  rw [if_pos (wanted_none hg _)]
  left
  unfold Oper.wp
  rw [hr]
  exact hk
theorem j_runU {op : Op} (h : ∀ a w, Fits N e a → Sat L F w → ∃ w', (execOp a.eval ⟨none, op, t, p, af, none⟩).run P w = .ok .skip w' ∧ wpList P ops Q rest a w') : J N e L F (wpList P ops Q (⟨none, op, t, p, af, none⟩ :: rest)) := fun a w hf hs => by
  obtain ⟨w', hr, hk⟩ := h a w hf hs
  unfold wpList
  rw [if_pos (wanted_none rfl _)]
  left
  unfold Oper.wp
  rw [hr]
  exact hk
theorem j_store [hx : EvO e x (.pointer (some ⟨b, o, none⟩))] [hy : EvO e y v] [hc : CellsV v cs] [hz : Siz P t n] [ho : OneVs cs] [st : ST L b o cs L'] (hn : cs.length = n) (h : J N e L' F (wpList P ops Q rest)) :
    J N e L F (wpList P ops Q (⟨none, .store t x y, v1, p, af, none⟩ :: rest)) :=
  j_runU fun a w hf hs => by
    obtain ⟨w', e1, e2⟩ := hs.store (P := P) st ho.out
    refine ⟨w', ?_, h a w' hf e2⟩
    have hsz : v.cells.size = n := by rw [← Array.length_toList, hc.out]; exact hn
    simp only [execOp, hx.out hf, hy.out hf, Instr.storeAt, Instr.sureAddr, storeVar, Sem.run_bind, Sem.run_pure, Result.andThen_ok, hz.out, hsz, ne_eq, not_true_eq_false, if_false, hc.out, e1]
theorem new_cells {w : World} {cs : List Value} {t : TypeId} : cells w.heap.size 0 cs (fun b o => if b = w.heap.size then wat (w.alloc (.cells cs.toArray t)) b o else none) := by
  rw [cells_iff]
  refine Heap.ext' fun b o => ?_
  by_cases hb : b = w.heap.size
  · subst hb
    rw [if_pos rfl, if_pos ⟨rfl, Nat.zero_le _⟩, wat_alloc_new, List.getElem?_toArray, Nat.sub_zero]
  · rw [if_neg hb, if_neg (fun hh => hb hh.1)]
theorem j_alloc [hz : Zro P t v] [hc : CellsV v cs] (hd : Nat.blt d N = true) (h : ∀ b, J N ((d, .pointer (some ⟨b, 0, none⟩)) :: e) (cells b 0 cs :: L) F (wpList P ops Q rest)) :
    J N e L F (wpList P ops Q (⟨some d, .alloc t, v1, p, af, none⟩ :: rest)) :=
  j_run rfl fun a w hf hs => by
    refine ⟨_, w.alloc (.cells cs.toArray t), ?_, h w.heap.size _ _ (hf.put hd _) (hs.alloc _ new_cells)⟩
    have : v.cells = cs.toArray := by rw [← hc.out]
    simp only [execOp, Instr.alloc, newVar, newRow, Sem.run_bind, Sem.run_pure, Result.andThen_ok, hz.out, run_newObj, this]
    rfl
theorem j_box [hx : EvO e x v] [hc : CellsV v cs] (hd : Nat.blt d N = true) (h : ∀ b, J N ((d, .pointer (some ⟨b, 0, none⟩)) :: e) (cells b 0 cs :: L) F (wpList P ops Q rest)) :
    J N e L F (wpList P ops Q (⟨some d, .box t x, v1, p, af, none⟩ :: rest)) :=
  j_run rfl fun a w hf hs => by
    refine ⟨_, w.alloc (.cells cs.toArray t), ?_, h w.heap.size _ _ (hf.put hd _) (hs.alloc _ new_cells)⟩
    have : v.cells = cs.toArray := by rw [← hc.out]
    simp only [execOp, Instr.box, newVar, newRow, Sem.run_bind, Sem.run_pure, Result.andThen_ok, hx.out hf, run_newObj, this]
    rfl
end
theorem own_iff {α : Type} {E : Enc α} {A : Option Addr} {c : Nat} {xs : List α} {h : Heap} : own E A c xs h ↔ ((A = none ∧ xs = [] ∧ c = 0 ∧ h = Heap.emp) ∨ ∃ b o sp, A = some ⟨b, o, none⟩ ∧ xs.length ≤ c ∧ sp.length = (c - xs.length) * E.sz ∧ (∀ v ∈ sp, v.oneCell' = true) ∧ cells b o (xs.flatMap E.cells ++ sp) h) := Iff.rfl
theorem own.inl {α : Type} {E : Enc α} {A : Option Addr} {c : Nat} {xs : List α} {h : Heap} (h1 : A = none ∧ xs = [] ∧ c = 0 ∧ h = Heap.emp) : own E A c xs h := Or.inl h1
theorem own.inr {α : Type} {E : Enc α} {A : Option Addr} {c : Nat} {xs : List α} {h : Heap} (h1 : ∃ b o sp, A = some ⟨b, o, none⟩ ∧ xs.length ≤ c ∧ sp.length = (c - xs.length) * E.sz ∧ (∀ v ∈ sp, v.oneCell' = true) ∧ cells b o (xs.flatMap E.cells ++ sp) h) : own E A c xs h := Or.inr h1
attribute [irreducible] own
end Go.Proofs.YtjmicpkinflofaaDoor.S
