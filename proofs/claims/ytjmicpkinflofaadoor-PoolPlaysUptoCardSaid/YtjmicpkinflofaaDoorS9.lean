/- The walk: sums within bounds, copies, cuts, bytes and strings. Generic over programs. -/
import Derived.Test.YtjmicpkinflofaaDoorS8
namespace Go.Proofs.YtjmicpkinflofaaDoor.S
open Go.RowKit
set_option linter.unusedVariables false
set_option linter.unusedSimpArgs false

/-! ### Sums within bounds -/
section
variable {P : Program} {N : Nat} {e : Env} {L L' : List Hp} {F : Fr} {W : List Oper → Act → World → Prop} {ops : Array Oper} {d : Nat} {op : Op} {t u v1 : TypeId} {p : String} {af : Array Edge} {rest : List Oper} {v : Value} {x y : Operand} {i j : Int} {a b : Nat}
theorem j_opv [s : Steps' P ops W] (hv : StepV P e L F ⟨some d, op, t, p, af, none⟩ v) {v' : Value} (he : v = v') (hd : Nat.blt d N = true) (h : J N ((d, v') :: e) L F (W rest)) : J N e L F (W (⟨some d, op, t, p, af, none⟩ :: rest)) := by
  subst he
  exact j_op hd h
theorem j_addN [s : Steps' P ops W] [hx : EvO e x (.int .i64 i)] [hy : EvO e y (.int .i64 j)] [ha : NatIdx i a] [hb : NatIdx j b] (hlim : a + b ≤ 9223372036854775807) (hd : Nat.blt d N = true) (h : J N ((d, .int .i64 ((a + b : Nat) : Int)) :: e) L F (W rest)) :
    J N e L F (W (⟨some d, .binOp .add t x y u, v1, p, af, none⟩ :: rest)) :=
  j_opv sv_add (by rw [ha.out, hb.out, Go.IntWalk.i64_in _ (by omega)]; rfl) hd h
theorem j_subN [s : Steps' P ops W] [hx : EvO e x (.int .i64 i)] [hy : EvO e y (.int .i64 j)] [ha : NatIdx i a] [hb : NatIdx j b] (hlim : b ≤ a ∧ a ≤ 9223372036854775807) (hd : Nat.blt d N = true) (h : J N ((d, .int .i64 ((a - b : Nat) : Int)) :: e) L F (W rest)) :
    J N e L F (W (⟨some d, .binOp .sub t x y u, v1, p, af, none⟩ :: rest)) :=
  j_opv sv_sub (by rw [ha.out, hb.out, Go.IntWalk.i64_in _ (by omega)]; congr 1; omega) hd h
theorem j_mulN [s : Steps' P ops W] [hx : EvO e x (.int .i64 i)] [hy : EvO e y (.int .i64 j)] [ha : NatIdx i a] [hb : NatIdx j b] (hlim : a * b ≤ 9223372036854775807) (hd : Nat.blt d N = true) (h : J N ((d, .int .i64 ((a * b : Nat) : Int)) :: e) L F (W rest)) :
    J N e L F (W (⟨some d, .binOp .mul t x y u, v1, p, af, none⟩ :: rest)) :=
  j_opv sv_mul (by
    rw [ha.out, hb.out, ← Int.natCast_mul, Go.IntWalk.i64_in _ (by omega)]) hd h
theorem j_remN [s : Steps' P ops W] [hx : EvO e x (.int .i64 i)] [hy : EvO e y (.int .i64 j)] [ha : NatIdx i a] [hb : NatIdx j b] (hlim : 0 < b) (hd : Nat.blt d N = true) (h : J N ((d, .int .i64 ((a % b : Nat) : Int)) :: e) L F (W rest)) :
    J N e L F (W (⟨some d, .binOp .rem t x y u, v1, p, af, none⟩ :: rest)) := by
  have : Ft (j ≠ 0) := ⟨by have := hb.out; omega⟩
  refine j_opv sv_rem (by rw [ha.out, hb.out, Int.tmod_eq_emod_of_nonneg (by omega)]; rfl) hd h
theorem j_addI [s : Steps' P ops W] [hx : EvO e x (.int .i64 i)] [hy : EvO e y (.int .i64 j)] (h1 : -9223372036854775808 ≤ i + j) (h2 : i + j ≤ 9223372036854775807) (hd : Nat.blt d N = true) (h : J N ((d, .int .i64 (i + j)) :: e) L F (W rest)) :
    J N e L F (W (⟨some d, .binOp .add t x y u, v1, p, af, none⟩ :: rest)) := j_opv sv_add (by rw [Go.IntWalk.i64_in _ ⟨h1, h2⟩]) hd h
theorem j_subI [s : Steps' P ops W] [hx : EvO e x (.int .i64 i)] [hy : EvO e y (.int .i64 j)] (h1 : -9223372036854775808 ≤ i - j) (h2 : i - j ≤ 9223372036854775807) (hd : Nat.blt d N = true) (h : J N ((d, .int .i64 (i - j)) :: e) L F (W rest)) :
    J N e L F (W (⟨some d, .binOp .sub t x y u, v1, p, af, none⟩ :: rest)) := j_opv sv_sub (by rw [Go.IntWalk.i64_in _ ⟨h1, h2⟩]) hd h
/-- The same as instances, out of facts that are laid before. -/
instance (priority := high) sv_addN {dst : Option Nat} {g : Option (Nat × Bool)} [hx : EvO e x (.int .i64 i)] [hy : EvO e y (.int .i64 j)] [ha : NatIdx i a] [hb : NatIdx j b] [hl : Ft (a + b ≤ 9223372036854775807)] : StepV P e L F ⟨dst, .binOp .add t x y u, v1, p, af, g⟩ (.int .i64 ((a + b : Nat) : Int)) := ⟨fun hf hs => by
  have := hl.out
  have h1 := (sv_add (P := P) (e := e) (L := L) (F := F) (d := dst) (t := t) (u := u) (v1 := v1) (p := p) (af := af) (g := g) (x := x) (y := y)).out hf hs
  rw [ha.out, hb.out, Go.IntWalk.i64_in _ (by omega)] at h1
  exact h1⟩
instance (priority := high) sv_subN {dst : Option Nat} {g : Option (Nat × Bool)} [hx : EvO e x (.int .i64 i)] [hy : EvO e y (.int .i64 j)] [ha : NatIdx i a] [hb : NatIdx j b] [hl : Ft (b ≤ a ∧ a ≤ 9223372036854775807)] : StepV P e L F ⟨dst, .binOp .sub t x y u, v1, p, af, g⟩ (.int .i64 ((a - b : Nat) : Int)) := ⟨fun hf hs => by
  have := hl.out
  have h1 := (sv_sub (P := P) (e := e) (L := L) (F := F) (d := dst) (t := t) (u := u) (v1 := v1) (p := p) (af := af) (g := g) (x := x) (y := y)).out hf hs
  rw [ha.out, hb.out, Go.IntWalk.i64_in _ (by omega), show (a : Int) - b = ((a - b : Nat) : Int) by omega] at h1
  exact h1⟩
instance (priority := high) sv_remN {dst : Option Nat} {g : Option (Nat × Bool)} [hx : EvO e x (.int .i64 i)] [hy : EvO e y (.int .i64 j)] [ha : NatIdx i a] [hb : NatIdx j b] [hl : Ft (0 < b)] : StepV P e L F ⟨dst, .binOp .rem t x y u, v1, p, af, g⟩ (.int .i64 ((a % b : Nat) : Int)) := ⟨fun hf hs => by
  have := hl.out
  have : Ft (j ≠ 0) := ⟨by have := hb.out; omega⟩
  have h1 := (sv_rem (P := P) (e := e) (L := L) (F := F) (d := dst) (t := t) (u := u) (v1 := v1) (p := p) (af := af) (g := g) (x := x) (y := y)).out hf hs
  rw [ha.out, hb.out, Int.tmod_eq_emod_of_nonneg (by omega)] at h1
  exact h1⟩
end
/-! ### min, max -/
section
variable {P : Program} {e : Env} {L : List Hp} {F : Fr} {d : Option Nat} {t u : TypeId} {p : String} {af : Array Edge} {g : Option (Nat × Bool)} {x y : Operand} {k : IntKind} {i j : Int} {v1 : TypeId} {ats : Array TypeId}
instance sv_min [hx : EvO e x (.int k i)] [hy : EvO e y (.int k j)] : StepV P e L F ⟨d, .call { callee := .builtin .min, args := #[x, y], argTypes := ats }, v1, p, af, g⟩ (.int k (min i j)) := ⟨fun {N a w} hf _ => by
  have h : (if j < i then j else i) = min i j := by omega
  simp only [execOp, resolve, invoke, builtin, Builtin.min_, Builtin.min2, List.map_toArray, List.map_cons, List.map_nil, hx.out hf, hy.out hf, Sem.run_bind, Sem.run_pure, Result.andThen_ok, List.foldlM_cons, List.foldlM_nil, h]⟩
instance sv_max [hx : EvO e x (.int k i)] [hy : EvO e y (.int k j)] : StepV P e L F ⟨d, .call { callee := .builtin .max, args := #[x, y], argTypes := ats }, v1, p, af, g⟩ (.int k (max i j)) := ⟨fun {N a w} hf _ => by
  have h : (if j > i then j else i) = max i j := by omega
  simp only [execOp, resolve, invoke, builtin, Builtin.max_, Builtin.max2, List.map_toArray, List.map_cons, List.map_nil, hx.out hf, hy.out hf, Sem.run_bind, Sem.run_pure, Result.andThen_ok, List.foldlM_cons, List.foldlM_nil, h]⟩
end
/-! ### Copies -/
theorem overL_mid {X Y Z cs : List Value} (h : Y.length = cs.length) : overL (X ++ Y ++ Z) X.length cs = X ++ cs ++ Z := by
  unfold overL
  rw [List.append_assoc X Y Z, List.take_left, ← List.append_assoc X Y Z, ← h, ← List.length_append, List.drop_left]
theorem own_over {α : Type} {E : Enc α} {A : Option Addr} {c : Nat} {xs ys : List α} {a : Nat} {h : Heap} (ho : own E A c xs h) (hle : a + ys.length ≤ xs.length) (hne : ys ≠ []) :
    ∃ b o, A = some ⟨b, o, none⟩ ∧ (∀ i, i < (ys.flatMap E.cells).length → ∃ u, h b (o + a * E.sz + i) = some (.val u false)) ∧ own E A c (xs.take a ++ ys ++ xs.drop (a + ys.length)) (hput h b (o + a * E.sz) (ys.flatMap E.cells)) := by
  rcases own_iff.1 ho with ⟨rfl, rfl, rfl, rfl⟩ | ⟨b, o, sp, rfl, hc, hsp, h1, hcs⟩
  · exfalso
    have h0 : a + ys.length ≤ 0 := hle
    have : ys.length = 0 := by omega
    exact hne (List.length_eq_zero_iff.1 this)
  · have hk : a * E.sz + (ys.flatMap E.cells).length ≤ (xs.flatMap E.cells ++ sp).length := by
      simp only [List.length_append, flat_len]
      have : (a + ys.length) * E.sz ≤ xs.length * E.sz := Nat.mul_le_mul_right _ hle
      rw [Nat.add_mul] at this
      omega
    obtain ⟨p1, p2⟩ := cells_put (k := a * E.sz) hk hcs
    refine ⟨b, o, rfl, p1, .inr ⟨b, o, sp, rfl, by simp; omega, ?_, h1, ?_⟩⟩
    · rw [hsp]; congr 2; simp; omega
    · have e1 : overL (xs.flatMap E.cells ++ sp) (a * E.sz) (ys.flatMap E.cells) = (xs.take a ++ ys ++ xs.drop (a + ys.length)).flatMap E.cells ++ sp := by
        have hsplit : xs.flatMap E.cells = (xs.take a).flatMap E.cells ++ ((xs.drop a).take ys.length).flatMap E.cells ++ (xs.drop (a + ys.length)).flatMap E.cells := by
          rw [← List.flatMap_append, ← List.flatMap_append]
          congr 1
          rw [List.append_assoc, ← List.drop_drop, List.take_append_drop, List.take_append_drop]
        have l1 : ((xs.take a).flatMap E.cells).length = a * E.sz := by rw [flat_len, List.length_take, Nat.min_eq_left (by omega)]
        have l2 : (((xs.drop a).take ys.length).flatMap E.cells).length = ys.length * E.sz := by rw [flat_len, List.length_take, List.length_drop, Nat.min_eq_left (by omega)]
        have e2 := overL_mid (X := (xs.take a).flatMap E.cells) (Y := ((xs.drop a).take ys.length).flatMap E.cells) (Z := (xs.drop (a + ys.length)).flatMap E.cells ++ sp) (cs := ys.flatMap E.cells) (by rw [l2, flat_len])
        rw [l1, ← List.append_assoc, ← hsplit] at e2
        rw [e2]
        simp only [List.flatMap_append, List.append_assoc]
      rw [← e1]
      exact p2
theorem Sat.copyIn {α : Type} {P : Program} {E : Enc α} {L L' : List Hp} {F : Fr} {w : World} {A : Option Addr} {c a : Nat} {xs ys : List α} (hs : Sat L F w) (hp : Pick (own E A c xs) L L') (hle : a + ys.length ≤ xs.length) (hne : ys ≠ []) :
    ∃ b o w', A = some ⟨b, o, none⟩ ∧ (storeCells ⟨b, o + a * E.sz, none⟩ (ys.flatMap E.cells)).run P w = .ok () w' ∧ Sat (own E A c (xs.take a ++ ys ++ xs.drop (a + ys.length)) :: L') F w' := by
  obtain ⟨h, hl, rest⟩ := hs
  obtain ⟨h1, h2, hd, rfl, ho, hl2⟩ := (hp.stars h).1 hl
  obtain ⟨b, o, hA, p1, p2⟩ := own_over ho hle hne
  have st : ∀ c0 : Hp, c0 = (fun k => k = h1) → ST (c0 :: L') b (o + a * E.sz) (ys.flatMap E.cells) ((fun k => k = hput h1 b (o + a * E.sz) (ys.flatMap E.cells)) :: L') := fun c0 hc0 => ⟨by
    rintro k ⟨k1, k2, kd, rfl, kc, kl⟩
    subst hc0
    subst kc
    exact ⟨fun j hj => let ⟨u, hu⟩ := p1 j hj; ⟨u, Heap.un_left hu⟩, ⟨_, k2, hput_dj_left kd p1, (hput_left p1).symm, rfl, kl⟩⟩⟩
  obtain ⟨w', e1, e2⟩ := Sat.store (P := P) (show Sat ((fun k => k = h1) :: L') F w from ⟨_, ⟨h1, h2, hd, rfl, rfl, hl2⟩, rest⟩) (st _ rfl) (flat_one E ys)
  exact ⟨b, o, w', hA, e1, e2.le (LE.head fun k hk => by subst hk; exact p2)⟩
def asub (A : Option Addr) (c a sz : Nat) : Option Addr := if c - a = 0 then A else A.map (·.add (a * sz))
section
variable {α : Type} {P : Program} {N : Nat} {e : Env} {L L' : List Hp} {F : Fr} {Q : Exit → Act → World → Prop} {ops : Array Oper} {d : Nat} {dst : Option Nat} {t t' et v1 : TypeId} {p : String} {af : Array Edge} {rest : List Oper} {v : Value} {x y z : Operand} {A : Option Addr} {n c a m : Nat} {xs ys : List α} {E : Enc α} {i j : Int} {lo hi : Nat}
theorem copy_ends {w : World} {a : Act} {r : Value} {w' : World} {sv dv : Value} (hf : Fits N e a) [hx : EvO e x dv] [hy : EvO e y sv] (h : (Builtin.copy_ #[t, t'] v1 #[dv, sv]).run P w = .ok r w') :
    (execOp a.eval ⟨dst, .call { callee := .builtin .copy, args := #[x, y], argTypes := #[t, t'] }, v1, p, af, none⟩).run P w = .ok (.value r) w' := by
  simp only [execOp, resolve, invoke, builtin, List.map_toArray, List.map_cons, List.map_nil, hx.out hf, hy.out hf, Sem.run_bind, Sem.run_pure, Result.andThen_ok, h]
/-- copy into a slice of the call's own, from its place a on. -/
theorem run_copy {w : World} [ht : Und P t (.slice et)] [hsz : Siz P et E.sz] {sv : Value} (hs : Sat L F w) (hp : Pick (own E A c xs) L L') (src : Src P L F E sv ys) (ha : a + n ≤ xs.length) (hac : n = 0 ∨ asub A c a E.sz = A.map (·.add (a * E.sz))) :
    ∃ w', (Builtin.copy_ #[t, t'] v1 #[.slice (asub A c a E.sz) n m, sv]).run P w = .ok (.int .i64 ((min ys.length n : Nat) : Int)) w' ∧ Sat (own E A c (xs.take a ++ ys.take n ++ xs.drop (a + min ys.length n)) :: L') F w' := by
  obtain ⟨hlen, hsrc⟩ := src.out hs
  obtain ⟨k, hk⟩ : ∃ k, min ys.length n = k := ⟨_, rfl⟩
  have hcells := hsrc k (by omega)
  have htk : ys.take k = ys.take n := by
    rw [← hk]
    by_cases h : ys.length ≤ n
    · rw [Nat.min_eq_left h, List.take_of_length_le (Nat.le_refl _), List.take_of_length_le h]
    · rw [Nat.min_eq_right (by omega)]
  have hkl : (ys.take n).length = k := by rw [List.length_take, Nat.min_comm, hk]
  by_cases h0 : k = 0
  · subst h0
    refine ⟨w, ?_, ?_⟩
    · have : (ys.take 0).flatMap E.cells = [] := by simp
      rw [this] at hcells
      cases hA : asub A c a E.sz with
      | none =>
        simp only [Builtin.copy_, List.getElem?_toArray, List.getElem?_cons_zero, List.getElem?_cons_succ, Sem.run_bind, Sem.run_pure, run_und, Result.andThen_ok, hlen, hsz.out, Nat.min_def] at *
        simp only [show (if ys.length ≤ n then ys.length else n) = 0 by have := hk; omega, hcells, Result.andThen_ok, goInt, hk]
      | some q =>
        simp only [Builtin.copy_, List.getElem?_toArray, List.getElem?_cons_zero, List.getElem?_cons_succ, Sem.run_bind, Sem.run_pure, run_und, Result.andThen_ok, hlen, hsz.out, Nat.min_def] at *
        simp only [show (if ys.length ≤ n then ys.length else n) = 0 by have := hk; omega, hcells, Result.andThen_ok, goInt, hk, storeCells, Sem.run_pure]
    · have e1 : ys.take n = [] := List.length_eq_zero_iff.1 hkl
      rw [e1, hk, Nat.add_zero, List.append_nil, List.take_append_drop]
      exact hs.le (LE.pick hp (LE.refl _))
  · have hne : ys.take n ≠ [] := fun h => h0 (by rw [← hkl, h]; rfl)
    obtain ⟨b, o, w', hA, e1, e2⟩ := hs.copyIn (P := P) (ys := ys.take n) (a := a) hp (by rw [hkl]; omega) hne
    refine ⟨w', ?_, by rw [hkl] at e2; rw [hk]; exact e2⟩
    have hA' : asub A c a E.sz = some ⟨b, o + a * E.sz, none⟩ := by
      rcases hac with h | h
      · omega
      · rw [h, hA]; simp [add_off]
    rw [htk] at hcells
    simp only [Builtin.copy_, List.getElem?_toArray, List.getElem?_cons_zero, List.getElem?_cons_succ, Sem.run_bind, Sem.run_pure, run_und, Result.andThen_ok, hlen, hsz.out]
    have hk' : Nat.min ys.length n = k := hk
    simp only [hk', hcells, Result.andThen_ok, hA', goInt, hk, Sem.run_bind, e1, Sem.run_pure]
theorem j_copy [hx : EvO e x (.slice A n m)] [hy : EvO e y v] [ht : Und P t (.slice et)] [hsz : Siz P et a] [he : EncSz E a] [hp : OwnIn L A E c xs L'] [src : Src P L F E v ys] (hn : n ≤ xs.length) (hd : Nat.blt d N = true)
    (h : J N ((d, .int .i64 ((min ys.length n : Nat) : Int)) :: e) (own E A c (ys.take n ++ xs.drop (min ys.length n)) :: L') F (wpList P ops Q rest)) :
    J N e L F (wpList P ops Q (⟨some d, .call { callee := .builtin .copy, args := #[x, y], argTypes := #[t, t'] }, v1, p, af, none⟩ :: rest)) :=
  j_run rfl fun act w hf hs => by
    have e1 : E.sz = a := he.out
    subst e1
    have h0 : asub A c 0 E.sz = A := by
      unfold asub
      split
      · rfl
      · cases A <;> simp [Addr.add]
    obtain ⟨w', r1, r2⟩ := run_copy (P := P) (t := t) (t' := t') (v1 := v1) (m := m) (a := 0) (n := n) hs hp.out src (by omega) (.inr (by rw [h0]; cases A <;> simp [Addr.add]))
    rw [h0] at r1
    rw [List.take_zero, List.nil_append, Nat.zero_add] at r2
    exact ⟨_, w', copy_ends hf r1, h _ w' (hf.put hd _) r2⟩
theorem j_copy_at [hx : EvO e x (.slice (asub A c a m) n lo)] [hy : EvO e y v] [ht : Und P t (.slice et)] [hsz : Siz P et m] [he : EncSz E m] [hp : OwnIn L A E c xs L'] [src : Src P L F E v ys] (hn : a + n ≤ xs.length) (hd : Nat.blt d N = true)
    (h : J N ((d, .int .i64 ((min ys.length n : Nat) : Int)) :: e) (own E A c (xs.take a ++ ys.take n ++ xs.drop (a + min ys.length n)) :: L') F (wpList P ops Q rest)) :
    J N e L F (wpList P ops Q (⟨some d, .call { callee := .builtin .copy, args := #[x, y], argTypes := #[t, t'] }, v1, p, af, none⟩ :: rest)) :=
  j_run rfl fun act w hf hs => by
    have e1 : E.sz = m := he.out
    subst e1
    have hc : xs.length ≤ c := by
      obtain ⟨h', hl, _⟩ := hs
      obtain ⟨h1, h2, _, _, ho, _⟩ := (hp.out.stars h').1 hl
      exact ho.cells_split
    obtain ⟨w', r1, r2⟩ := run_copy (P := P) (t := t) (t' := t') (v1 := v1) (m := lo) (a := a) (n := n) hs hp.out src hn (by
      by_cases h0 : n = 0
      · exact .inl h0
      · right; unfold asub; rw [if_neg (by omega)])
    exact ⟨_, w', copy_ends hf r1, h _ w' (hf.put hd _) r2⟩
/-! ### Cuts -/
theorem run_slice_slice {w : World} {A : Option Addr} {n c : Nat} [ht : Und P t (.slice et)] [hs : Siz P et m] {l h : Option Value} {lo hi : Nat} (hl : (l = none ∧ lo = 0) ∨ ∃ k, l = some (.int k (lo : Int))) (hh : (h = none ∧ hi = n) ∨ ∃ k, h = some (.int k (hi : Int))) (h1 : lo ≤ hi) (h2 : hi ≤ c) :
    (Instr.sliceAt t (.slice A n c) l h none).run P w = .ok (.slice (asub A c lo m) (hi - lo) (c - lo)) w := by
  have b1 : ((0 : Int) ≤ (hi : Int) ∧ (hi : Int) ≤ (c : Int)) := by omega
  have b2 : ((0 : Int) ≤ (lo : Int) ∧ (lo : Int) ≤ (hi : Int)) := by omega
  have e1 : (if c = lo then A else A.map (·.add (lo * m))) = asub A c lo m := by
    unfold asub
    by_cases h : c = lo
    · rw [if_pos h, if_pos (by omega)]
    · rw [if_neg h, if_neg (by omega)]
  rcases hl with ⟨rfl, rfl⟩ | ⟨k1, rfl⟩ <;> rcases hh with ⟨rfl, rfl⟩ | ⟨k2, rfl⟩ <;>
    simp only [Instr.sliceAt, Instr.slice, Instr.sliceBounds, Instr.sliceBound, asIntOf, Sem.run_bind, Sem.run_pure, run_und, Result.andThen_ok, hs.out, b1, b2, and_self, if_true, Int.toNat_natCast, e1, Bool.false_eq_true, if_false]
theorem j_slice_hi [hx : EvO e x (.slice A n c)] [hy : EvO e y (.int .i64 i)] [hi' : NatIdx i hi] [ht : Und P t (.slice et)] [hs : Siz P et m] {W : List Oper → Act → World → Prop} [s : Steps' P ops W] (h2 : hi ≤ c) (hd : Nat.blt d N = true) (h : J N ((d, .slice A hi c) :: e) L F (W rest)) :
    J N e L F (W (⟨some d, .slice t x none (some y) none, v1, p, af, none⟩ :: rest)) := by
  have hv : StepV P e L F ⟨some d, .slice t x none (some y) none, v1, p, af, none⟩ (.slice A hi c) := ⟨fun {N a w} hf hsat => by
    have h0 : asub A c 0 m = A := by
      unfold asub
      split
      · rfl
      · cases A <;> simp [Addr.add]
    have r := run_slice_slice (P := P) (t := t) (et := et) (m := m) (w := w) (A := A) (n := n) (c := c) (l := none) (h := some (.int .i64 i)) (lo := 0) (hi := hi) (.inl ⟨rfl, rfl⟩) (.inr ⟨.i64, by rw [hi'.out]⟩) (by omega) h2
    rw [h0, Nat.sub_zero, Nat.sub_zero] at r
    simp only [execOp, Option.map_some, Option.map_none, hx.out hf, hy.out hf, Sem.run_bind, r, Result.andThen_ok, Sem.run_pure]⟩
  exact j_op hd h
theorem j_slice_lo [hx : EvO e x (.slice A n c)] [hy : EvO e y (.int .i64 i)] [hi' : NatIdx i lo] [ht : Und P t (.slice et)] [hs : Siz P et m] {W : List Oper → Act → World → Prop} [s : Steps' P ops W] (h2 : lo ≤ n ∧ n ≤ c) (hd : Nat.blt d N = true) (h : J N ((d, .slice (asub A c lo m) (n - lo) (c - lo)) :: e) L F (W rest)) :
    J N e L F (W (⟨some d, .slice t x (some y) none none, v1, p, af, none⟩ :: rest)) := by
  have hv : StepV P e L F ⟨some d, .slice t x (some y) none none, v1, p, af, none⟩ (.slice (asub A c lo m) (n - lo) (c - lo)) := ⟨fun {N a w} hf hsat => by
    have r := run_slice_slice (P := P) (t := t) (et := et) (m := m) (w := w) (A := A) (n := n) (c := c) (h := none) (l := some (.int .i64 i)) (lo := lo) (hi := n) (.inr ⟨.i64, by rw [hi'.out]⟩) (.inl ⟨rfl, rfl⟩) h2.1 h2.2
    simp only [execOp, Option.map_some, Option.map_none, hx.out hf, hy.out hf, Sem.run_bind, r, Result.andThen_ok, Sem.run_pure]⟩
  exact j_op hd h
theorem j_slice_lh [hx : EvO e x (.slice A n c)] [hy : EvO e y (.int .i64 i)] [hl' : NatIdx i lo] [hz : EvO e z (.int .i64 j)] [hi' : NatIdx j hi] [ht : Und P t (.slice et)] [hs : Siz P et m] {W : List Oper → Act → World → Prop} [s : Steps' P ops W] (h2 : lo ≤ hi ∧ hi ≤ c) (hd : Nat.blt d N = true) (h : J N ((d, .slice (asub A c lo m) (hi - lo) (c - lo)) :: e) L F (W rest)) :
    J N e L F (W (⟨some d, .slice t x (some y) (some z) none, v1, p, af, none⟩ :: rest)) := by
  have hv : StepV P e L F ⟨some d, .slice t x (some y) (some z) none, v1, p, af, none⟩ (.slice (asub A c lo m) (hi - lo) (c - lo)) := ⟨fun {N a w} hf hsat => by
    have r := run_slice_slice (P := P) (t := t) (et := et) (m := m) (w := w) (A := A) (n := n) (c := c) (h := some (.int .i64 j)) (l := some (.int .i64 i)) (lo := lo) (hi := hi) (.inr ⟨.i64, by rw [hl'.out]⟩) (.inr ⟨.i64, by rw [hi'.out]⟩) h2.1 h2.2
    simp only [execOp, Option.map_some, Option.map_none, hx.out hf, hy.out hf, hz.out hf, Sem.run_bind, r, Result.andThen_ok, Sem.run_pure]⟩
  exact j_op hd h
theorem run_slice_string {w : World} {s : ByteArray} [ht : Und P t .string] {l h : Option Value} {lo hi : Nat} (hl : (l = none ∧ lo = 0) ∨ ∃ k, l = some (.int k (lo : Int))) (hh : (h = none ∧ hi = s.size) ∨ ∃ k, h = some (.int k (hi : Int))) (h1 : lo ≤ hi) (h2 : hi ≤ s.size) :
    (Instr.sliceAt t (.string s) l h none).run P w = .ok (.string (s.extract lo hi)) w := by
  have b1 : ((0 : Int) ≤ (hi : Int) ∧ (hi : Int) ≤ (s.size : Int)) := by omega
  have b2 : ((0 : Int) ≤ (lo : Int) ∧ (lo : Int) ≤ (hi : Int)) := by omega
  rcases hl with ⟨rfl, rfl⟩ | ⟨k1, rfl⟩ <;> rcases hh with ⟨rfl, rfl⟩ | ⟨k2, rfl⟩ <;>
    simp only [Instr.sliceAt, Instr.slice, Instr.sliceBounds, Instr.sliceBound, asIntOf, Sem.run_bind, Sem.run_pure, run_und, Result.andThen_ok, b1, b2, and_self, if_true, Int.toNat_natCast, Option.isSome_none, Bool.false_eq_true, if_false]
theorem j_slice_str_hi {s : ByteArray} [hx : EvO e x (.string s)] [hy : EvO e y (.int .i64 i)] [hi' : NatIdx i hi] [ht : Und P t .string] {W : List Oper → Act → World → Prop} [st : Steps' P ops W] (h2 : hi ≤ s.size) (hd : Nat.blt d N = true) (h : J N ((d, .string (s.extract 0 hi)) :: e) L F (W rest)) :
    J N e L F (W (⟨some d, .slice t x none (some y) none, v1, p, af, none⟩ :: rest)) := by
  have hv : StepV P e L F ⟨some d, .slice t x none (some y) none, v1, p, af, none⟩ (.string (s.extract 0 hi)) := ⟨fun {N a w} hf hsat => by
    have r := run_slice_string (P := P) (t := t) (w := w) (s := s) (l := none) (h := some (.int .i64 i)) (lo := 0) (hi := hi) (.inl ⟨rfl, rfl⟩) (.inr ⟨.i64, by rw [hi'.out]⟩) (by omega) h2
    simp only [execOp, Option.map_some, Option.map_none, hx.out hf, hy.out hf, Sem.run_bind, r, Result.andThen_ok, Sem.run_pure]⟩
  exact j_op hd h
theorem j_slice_str_lo {s : ByteArray} [hx : EvO e x (.string s)] [hy : EvO e y (.int .i64 i)] [hi' : NatIdx i lo] [ht : Und P t .string] {W : List Oper → Act → World → Prop} [st : Steps' P ops W] (h2 : lo ≤ s.size) (hd : Nat.blt d N = true) (h : J N ((d, .string (s.extract lo s.size)) :: e) L F (W rest)) :
    J N e L F (W (⟨some d, .slice t x (some y) none none, v1, p, af, none⟩ :: rest)) := by
  have hv : StepV P e L F ⟨some d, .slice t x (some y) none none, v1, p, af, none⟩ (.string (s.extract lo s.size)) := ⟨fun {N a w} hf hsat => by
    have r := run_slice_string (P := P) (t := t) (w := w) (s := s) (h := none) (l := some (.int .i64 i)) (lo := lo) (hi := s.size) (.inr ⟨.i64, by rw [hi'.out]⟩) (.inl ⟨rfl, rfl⟩) h2 (Nat.le_refl _)
    simp only [execOp, Option.map_some, Option.map_none, hx.out hf, hy.out hf, Sem.run_bind, r, Result.andThen_ok, Sem.run_pure]⟩
  exact j_op hd h
theorem j_slice_str_lh {s : ByteArray} [hx : EvO e x (.string s)] [hy : EvO e y (.int .i64 i)] [hl' : NatIdx i lo] [hz : EvO e z (.int .i64 j)] [hi' : NatIdx j hi] [ht : Und P t .string] {W : List Oper → Act → World → Prop} [st : Steps' P ops W] (h2 : lo ≤ hi ∧ hi ≤ s.size) (hd : Nat.blt d N = true) (h : J N ((d, .string (s.extract lo hi)) :: e) L F (W rest)) :
    J N e L F (W (⟨some d, .slice t x (some y) (some z) none, v1, p, af, none⟩ :: rest)) := by
  have hv : StepV P e L F ⟨some d, .slice t x (some y) (some z) none, v1, p, af, none⟩ (.string (s.extract lo hi)) := ⟨fun {N a w} hf hsat => by
    have r := run_slice_string (P := P) (t := t) (w := w) (s := s) (h := some (.int .i64 j)) (l := some (.int .i64 i)) (lo := lo) (hi := hi) (.inr ⟨.i64, by rw [hl'.out]⟩) (.inr ⟨.i64, by rw [hi'.out]⟩) h2.1 h2.2
    simp only [execOp, Option.map_some, Option.map_none, hx.out hf, hy.out hf, hz.out hf, Sem.run_bind, r, Result.andThen_ok, Sem.run_pure]⟩
  exact j_op hd h
/-- Of a slice of the call's own, a part alone. -/
theorem own_cut {c' : Nat} (hk : n ≤ xs.length) (h1 : n ≤ c') (h2 : c' ≤ c) : LE (own E A c xs :: L) (own E A c' (xs.take n) :: L) := by
  rintro h ⟨h1', h2', hd, rfl, ho, hl⟩
  rcases own_iff.1 ho with ⟨rfl, rfl, rfl, rfl⟩ | ⟨b, o, sp, rfl, hc, hsp, hs1, hcs⟩
  · have : c' = 0 := by omega
    subst this
    exact ⟨_, Heap.sub_refl, _, h2', hd, rfl, .inl ⟨rfl, by simp, rfl, rfl⟩, hl⟩
  · rw [cells_iff] at hcs
    subst hcs
    have hlen : (xs.flatMap E.cells ++ sp).length = c * E.sz := by
      rw [List.length_append, flat_len, hsp, ← Nat.add_mul]; congr 1; omega
    have e1 : (xs.flatMap E.cells ++ sp).take (c' * E.sz) = (xs.take n).flatMap E.cells ++ ((xs.flatMap E.cells ++ sp).take (c' * E.sz)).drop (n * E.sz) := by
      have h3 : ((xs.flatMap E.cells ++ sp).take (c' * E.sz)).take (n * E.sz) = (xs.take n).flatMap E.cells := by
        rw [List.take_take, Nat.min_eq_left (Nat.mul_le_mul_right _ h1)]
        conv => lhs; rw [← List.take_append_drop n xs, List.flatMap_append, List.append_assoc]
        have h4 : ((xs.take n).flatMap E.cells).length = n * E.sz := by rw [flat_len, List.length_take, Nat.min_eq_left hk]
        rw [← h4, List.take_left]
      rw [← h3, List.take_append_drop]
    have hsub : Heap.sub (fun b' o' => if b' = b ∧ o ≤ o' then (((xs.flatMap E.cells ++ sp).take (c' * E.sz))[o' - o]?).map (fun v => Cell.val v false) else none) (fun b' o' => if b' = b ∧ o ≤ o' then ((xs.flatMap E.cells ++ sp)[o' - o]?).map (fun v => Cell.val v false) else none) := fun b' o' q hq => by
      simp only at hq ⊢
      by_cases hb : b' = b ∧ o ≤ o'
      · rw [if_pos hb] at hq ⊢
        rw [List.getElem?_take] at hq
        split at hq
        · exact hq
        · cases hq
      · rw [if_neg hb] at hq; cases hq
    refine ⟨Heap.un (fun b' o' => if b' = b ∧ o ≤ o' then (((xs.flatMap E.cells ++ sp).take (c' * E.sz))[o' - o]?).map (fun v => Cell.val v false) else none) h2', fun b' o' q hq => ?_, _, h2', Heap.dj_sub hsub hd, rfl, .inr ⟨b, o, ((xs.flatMap E.cells ++ sp).take (c' * E.sz)).drop (n * E.sz), rfl, by simp; omega, ?_, fun v hv => ?_, ?_⟩, hl⟩
    · rcases Heap.un_some.1 hq with h5 | ⟨_, h5⟩
      · exact Heap.un_left (hsub _ _ _ h5)
      · exact Heap.un_right hd h5
    · rw [List.length_drop, List.length_take, hlen, List.length_take, Nat.min_eq_left hk, Nat.min_eq_left (Nat.mul_le_mul_right _ h2), ← Nat.sub_mul]
    · have hv' := List.mem_of_mem_take (List.mem_of_mem_drop hv)
      rcases List.mem_append.1 hv' with h6 | h6
      · exact flat_one E xs v h6
      · exact hs1 v h6
    · rw [cells_iff, ← e1]
theorem own_nil {L : List Hp} (E : Enc α) : LE L (own E none 0 [] :: L) := fun h hl => ⟨h, Heap.sub_refl, Heap.emp, h, Heap.emp_dj, rfl, .inl ⟨rfl, rfl, rfl, rfl⟩, hl⟩
end
end Go.Proofs.YtjmicpkinflofaaDoor.S
