/- The walk: regions that draw their order beside calls and stores; slices against nil; results in memory. Generic over programs. -/
import Derived.Test.YtjmicpkinflofaaDoorS9
import Derived.OrdersHeld
namespace Go.Proofs.YtjmicpkinflofaaDoor.S
open Go.RowKit
set_option linter.unusedVariables false
set_option linter.unusedSimpArgs false

/-! ### A region's operations in orders of ours: those that only read first; where several may come next, each -/
inductive Sch (α : Type) where
  | done
  | q (x : α) (s : Sch α)
  | alt (x : α) (s r : Sch α)
  | no
def Sch.heads : Sch Nat → List Nat
  | .alt i _ r => i :: r.heads
  | _ => []
def hCheck (ops : Array Oper) : Nat → Bool → Sch Nat → Array Bool → Bool
  | n, _, .done, listed => n == 0 && (Region.ready .any ops listed).isEmpty
  | n, _, .q i s, listed => (match n with | n + 1 => (Region.ready .any ops listed).contains i && Region.free .any ops listed i && hCheck ops n true s (listed.setIfInBounds i true) | 0 => false)
  | n, first, .alt i s r, listed => (match n with | n' + 1 => (!first || decide (Region.ready .any ops listed = i :: r.heads)) && hCheck ops n' true s (listed.setIfInBounds i true) && hCheck ops (n' + 1) false r listed | 0 => false)
  | _, first, .no, _ => !first
def lay (l : List Oper) : Sch Nat → Sch Oper
  | .done => .done
  | .q i s => .q (l.getD i default) (lay l s)
  | .alt i s r => .alt (l.getD i default) (lay l s) (lay l r)
  | .no => .no
def hQ (R : Act → World → Prop) : Exit → Act → World → Prop
  | .normal, a, w => R a w
  | _, _, _ => False
def hR (P : Program) (ops : Array Oper) (C : World → Prop) (R : Act → World → Prop) : Sch Oper → Act → World → Prop
  | .done, a, w => R a w
  | .q o r, a, w => C w ∧ ∃ v, YieldsIf P ops C o v a ∧ hR P ops C R r (a.put o.dst v) w
  | .alt o s r, a, w => wpList P ops (hQ (fun a' w' => C w' ∧ hR P ops C R s a' w')) [o] a w ∧ hR P ops C R r a w
  | .no, _, _ => True
/-- What is to be shown of each that may come next. -/
def Takes (P : Program) (l : List Oper) (C : World → Prop) (R : Act → World → Prop) (n : Nat) (listed : Array Bool) (a : Act) (w : World) : Sch Nat → Prop
  | .alt i _ r => wpOp P l.toArray (hQ R) i (fun a' w' => C w' ∧ wpAnyH P .any l.toArray (hQ R) C n (listed.setIfInBounds i true) a' w') a w ∧ Takes P l C R n listed a w r
  | _ => True
theorem Takes.mem {P : Program} {l : List Oper} {C : World → Prop} {R : Act → World → Prop} {n : Nat} {listed : Array Bool} {a : Act} {w : World} : ∀ {r : Sch Nat}, Takes P l C R n listed a w r → ∀ j ∈ r.heads, wpOp P l.toArray (hQ R) j (fun a' w' => C w' ∧ wpAnyH P .any l.toArray (hQ R) C n (listed.setIfInBounds j true) a' w') a w
  | .alt i s r, h, j, hj => by
    rcases List.mem_cons.1 hj with rfl | hj
    · exact h.1
    · exact Takes.mem h.2 j hj
  | .done, _, j, hj => by cases hj
  | .q _ _, _, j, hj => by cases hj
  | .no, _, j, hj => by cases hj
theorem hR_sound {P : Program} {l : List Oper} {C : World → Prop} {R : Act → World → Prop} (hs : Region.noSelect l.toArray = true) : ∀ (s : Sch Nat) (n : Nat) (first : Bool) (listed : Array Bool) (a : Act) (w : World), hCheck l.toArray n first s listed = true → (∀ i ∈ s.heads, i ∈ Region.ready .any l.toArray listed) → hR P l.toArray C R (lay l s) a w →
    (first = true → wpAnyH P .any l.toArray (hQ R) C n listed a w) ∧ ∀ n', n = n' + 1 → Takes P l C R n' listed a w s
  | .done, n, first, listed, a, w, hc, _, h => by
    simp only [hCheck, Bool.and_eq_true, beq_iff_eq] at hc
    obtain ⟨rfl, hc⟩ := hc
    exact ⟨fun _ => ⟨by simpa using hc, h⟩, fun _ _ => trivial⟩
  | .no, n, first, listed, a, w, hc, _, h => ⟨fun hf => by subst hf; simp [hCheck] at hc, fun _ _ => trivial⟩
  | .q i s, 0, first, listed, a, w, hc, _, h => by simp [hCheck] at hc
  | .q i s, n + 1, first, listed, a, w, hc, _, h => by
    simp only [hCheck, Bool.and_eq_true] at hc
    obtain ⟨⟨h1, h2⟩, h3⟩ := hc
    have hmem : i ∈ Region.ready .any l.toArray listed := by simpa using h1
    obtain ⟨_, o, ho, _⟩ := mem_ready.1 hmem
    have hlo : l.getD i default = o := by
      rw [List.getElem?_toArray] at ho
      rw [List.getD_eq_getElem?_getD, ho]; rfl
    simp only [lay, hlo, hR] at h
    obtain ⟨hC, v, hy, hr⟩ := h
    refine ⟨fun _ => wpAnyH_take ho hs (by simpa using h2) h1 (fun _ _ _ hh => by simp [hQ] at hh) hy hC ((hR_sound hs s n true _ _ _ h3 ?_ hr).1 rfl), fun _ _ => trivial⟩
    intro j hj
    cases s with
    | alt i' s' r' =>
      cases n with
      | zero => simp [hCheck] at h3
      | succ n =>
        simp only [hCheck, Bool.and_eq_true, Bool.not_true, Bool.false_or, decide_eq_true_eq] at h3
        rw [h3.1.1]
        exact hj
    | _ => cases hj
  | .alt i s r, 0, first, listed, a, w, hc, _, h => by simp [hCheck] at hc
  | .alt i s r, n + 1, first, listed, a, w, hc, hm, h => by
    simp only [hCheck, Bool.and_eq_true, Bool.or_eq_true, Bool.not_eq_true', decide_eq_true_eq] at hc
    obtain ⟨⟨h1, h2⟩, h3⟩ := hc
    have hmem : i ∈ Region.ready .any l.toArray listed := hm i List.mem_cons_self
    obtain ⟨_, o, ho, _⟩ := mem_ready.1 hmem
    have hlo : l.getD i default = o := by
      rw [List.getElem?_toArray] at ho
      rw [List.getD_eq_getElem?_getD, ho]; rfl
    simp only [lay, hlo, hR] at h
    obtain ⟨h, hrest⟩ := h
    have hsm : ∀ j ∈ s.heads, j ∈ Region.ready .any l.toArray (listed.setIfInBounds i true) := by
      intro j hj
      cases s with
      | alt i' s' r' =>
        cases n with
        | zero => simp [hCheck] at h2
        | succ n =>
          simp only [hCheck, Bool.and_eq_true, Bool.not_true, Bool.false_or, decide_eq_true_eq] at h2
          rw [h2.1.1]
          exact hj
      | _ => cases hj
    have hone : wpOp P l.toArray (hQ R) i (fun a' w' => C w' ∧ wpAnyH P .any l.toArray (hQ R) C n (listed.setIfInBounds i true) a' w') a w := by
      unfold wpOp
      simp only [ho]
      unfold wpList at h
      by_cases hw : Region.wanted o (yielded l.toArray a.tmps) = true
      · rw [if_pos hw] at h ⊢
        rcases h with h | ⟨_, _, _, hf⟩
        · left
          have hm := Oper.wp_mono (K' := fun a' w' => C w' ∧ wpAnyH P .any l.toArray (hQ R) C n (listed.setIfInBounds i true) a' w') (fun a' w' (hk : wpList P l.toArray (hQ fun a' w' => C w' ∧ hR P l.toArray C R (lay l s) a' w') [] a' w') => ⟨hk.1, (hR_sound hs s n true _ _ _ h2 hsm hk.2).1 rfl⟩) h
          unfold Oper.wp at hm ⊢
          generalize (execOp a.eval o).run P w = r at *
          cases r with
          | ok n w' =>
            cases n <;> simp only [Oper.upon] at hm ⊢ <;> first
              | exact hm
              | exact Calls.mono hm (fun e w'' he => by
                  cases e with
                  | returned u => exact he
                  | panicked c => simp [hQ] at he
                  | outgrown => obtain ⟨_, _, hf⟩ := he; simp [hQ] at hf)
          | halt x w' =>
            cases x <;> simp only [Oper.upon] at hm ⊢
            case panic u => simp [hQ] at hm
        · simp [hQ] at hf
      · rw [if_neg hw] at h ⊢
        exact ⟨h.1, (hR_sound hs s n true _ _ _ h2 hsm h.2).1 rfl⟩
    have htakes := (hR_sound hs r (n + 1) false listed a w h3 (fun j hj => hm j (List.mem_cons_of_mem _ hj)) hrest).2 n rfl
    refine ⟨fun hf => ?_, fun n' hn => ?_⟩
    · subst hf
      have hready : Region.ready .any l.toArray listed = i :: r.heads := by
        rcases h1 with h1 | h1
        · cases h1
        · exact h1
      refine wpAnyH_all (rs := i :: r.heads) hready (by simp) fun j hj => ?_
      rcases List.mem_cons.1 hj with rfl | hj
      · exact hone
      · exact htakes.mem j hj
    · injection hn with hn
      subst hn
      exact ⟨hone, htakes⟩
section
variable {P : Program} {N : Nat} {e e' : Env} {L L' K : List Hp} {F : Fr} {R : Act → World → Prop} {Q : Exit → Act → World → Prop} {ops : Array Oper} {d : Nat} {op : Op} {t : TypeId} {p : String} {af : Array Edge} {r s : Sch Oper} {v : Value} {j d' : Nat} {b c : Bool}
theorem j_region_hoist {i : Nat} {l : List Oper} (s : Sch Nat) (K : List Hp) (hm : P.follows .mixedOrders = true) (hns : Region.noSelect l.toArray = true) (hB : hCheck l.toArray l.length true s (Array.replicate l.toArray.size false) = true) (hle : LE L K) (h : LE L K → J N e L F (hR P l.toArray (Sat K F) (Q .normal) (lay l s))) : J N e L F ((Code.region i l.toArray true).wp P Q) := fun a w hf hs => by
  have h1 := (hR_sound hns s _ true _ a _ hB (by
    intro j hj
    cases s with
    | alt i' s' r' =>
      generalize hn : l.length = n at hB
      cases n with
      | zero => simp [hCheck] at hB
      | succ n =>
        simp only [hCheck, Bool.and_eq_true, Bool.not_true, Bool.false_or, decide_eq_true_eq] at hB
        rw [hB.1.1]
        exact hj
    | _ => cases hj) (h hle a _ hf hs.drew)).1 rfl
  have e1 : l.length = l.toArray.size := by simp
  rw [e1] at h1
  refine wp_mono (wp_region_held hm h1) ?_
  intro ex a' w' hq
  cases ex <;> first | exact hq | (simp [hQ] at hq)
theorem j_hq [g : StepV P e K F ⟨some d, op, t, p, af, none⟩ v] (hle : LE L K) (hd : Nat.blt d N = true) (h : J N ((d, v) :: e) L F (hR P ops (Sat K F) R r)) : J N e L F (hR P ops (Sat K F) R (.q ⟨some d, op, t, p, af, none⟩ r)) := fun a w hf hs =>
  ⟨hs.le hle, v, .inl ⟨wanted_none rfl _, fun w' hs' => g.out hf hs'⟩, h _ w (hf.put hd v) hs⟩
theorem j_hq_gdo [hj : DstA ops j d'] [y : GetE e d' (.bool b)] [g : StepV P e K F ⟨some d, op, t, p, af, some (j, b)⟩ v] (hle : LE L K) (hd : Nat.blt d N = true) (h : J N ((d, v) :: e) L F (hR P ops (Sat K F) R r)) : J N e L F (hR P ops (Sat K F) R (.q ⟨some d, op, t, p, af, some (j, b)⟩ r)) := fun a w hf hs =>
  ⟨hs.le hle, v, .inl ⟨by simp [Region.wanted, yielded_of hf hj.out], fun w' hs' => g.out hf hs'⟩, h _ w (hf.put hd v) hs⟩
theorem j_hq_gskip_t [hj : DstA ops j d'] [y : GetE e d' (.bool false)] (hle : LE L K) (hd : Nat.blt d N = true) (h : J N ((d, undef) :: e) L F (hR P ops (Sat K F) R r)) : J N e L F (hR P ops (Sat K F) R (.q ⟨some d, op, t, p, af, some (j, true)⟩ r)) := fun a w hf hs =>
  ⟨hs.le hle, undef, .inr ⟨by simp [Region.wanted, yielded_of (b := false) hf hj.out], rfl⟩, h _ w (hf.put hd undef) hs⟩
theorem j_hq_gskip_f [hj : DstA ops j d'] [y : GetE e d' (.bool true)] (hle : LE L K) (hd : Nat.blt d N = true) (h : J N ((d, undef) :: e) L F (hR P ops (Sat K F) R r)) : J N e L F (hR P ops (Sat K F) R (.q ⟨some d, op, t, p, af, some (j, false)⟩ r)) := fun a w hf hs =>
  ⟨hs.le hle, undef, .inr ⟨by simp [Region.wanted, yielded_of (b := true) hf hj.out], rfl⟩, h _ w (hf.put hd undef) hs⟩
theorem j_hq_gspec [hj : DstA ops j d'] [y : GetE e d' (.bool c)] [u : UnG e c b e'] [g : StepV P e' K F ⟨some d, op, t, p, af, some (j, b)⟩ v] (hle : LE L K) (hd : Nat.blt d N = true) (h : J N ((d, gv c b v) :: e) L F (hR P ops (Sat K F) R r)) : J N e L F (hR P ops (Sat K F) R (.q ⟨some d, op, t, p, af, some (j, b)⟩ r)) := fun a w hf hs => by
  by_cases hc : c = b
  · have h1 := h (a.put (some d) v) w (by have := hf.put hd v; unfold gv; rw [if_pos hc]; exact this) hs
    exact ⟨hs.le hle, v, .inl ⟨by simp [Region.wanted, yielded_of hf hj.out, hc], fun w' hs' => g.out ⟨hf.defers, hf.size, fun t u hu => hf.get t u (UnG.out hc t u hu)⟩ hs'⟩, h1⟩
  · have h1 := h (a.put (some d) undef) w (by have := hf.put hd undef; unfold gv; rw [if_neg hc]; exact this) hs
    exact ⟨hs.le hle, undef, .inr ⟨by simp [Region.wanted, yielded_of hf hj.out, hc], rfl⟩, h1⟩
theorem j_he {o : Oper} (h : J N e L F (wpList P ops (hQ (fun a w => Sat K F w ∧ hR P ops (Sat K F) R s a w)) [o])) : J N e L F (hR P ops (Sat K F) R (.alt o s .no)) := fun a w hf hs => ⟨h a w hf hs, trivial⟩
theorem j_ha {o o' : Oper} {s' r' : Sch Oper} (h : J N e L F (wpList P ops (hQ (fun a w => Sat K F w ∧ hR P ops (Sat K F) R s a w)) [o])) (h2 : J N e L F (hR P ops (Sat K F) R (.alt o' s' r'))) : J N e L F (hR P ops (Sat K F) R (.alt o s (.alt o' s' r'))) := fun a w hf hs => ⟨h a w hf hs, h2 a w hf hs⟩
theorem j_hn (hle : LE L K) (h : LE L K → J N e L F (hR P ops (Sat K F) R r)) : J N e L F (hQ (fun a w => Sat K F w ∧ hR P ops (Sat K F) R r a w) .normal) := fun a w hf hs => ⟨hs.le hle, h hle a w hf hs⟩
theorem j_hend (h : J N e L F R) : J N e L F (hR P ops (Sat K F) R .done) := h
end
/-! ### Slices against nil; results in memory -/
section
variable {α : Type} {P : Program} {N : Nat} {e : Env} {L L' : List Hp} {F : Fr} {Q : Exit → Act → World → Prop} {ops : Array Oper} {dst : Option Nat} {d : Nat} {t u et v1 : TypeId} {p : String} {af : Array Edge} {g : Option (Nat × Bool)} {x y : Operand} {n c m k : Nat} {A : Option Addr} {rest : List Oper} {a : Addr} {S : Value → List Hp → Prop}
theorem guard_slice {op : BinOp} {w : World} {A B : Option Addr} {n m c k : Nat} : (eqGuard op t x y (.slice A n c) (.slice B m k)).run P w = .ok () w := by
  unfold eqGuard
  cases op <;> simp
theorem eqIn_slice {q : Nat} {w : World} [ht : Und P t (.slice et)] : (Op.equalIn (q + 1) t (.slice A n c) (.slice none m k)).run P w = .ok A.isNone w := by
  cases A <;> simp [Op.equalIn, run_und]
instance sv_eql_slice_nil [hx : EvO e x (.slice A n c)] [hy : EvO e y (.slice none m k)] [ht : Und P t (.slice et)] : StepV P e L F ⟨dst, .binOp .eql t x y u, v1, p, af, g⟩ (.bool A.isNone) := ⟨fun hf _ => run_binop hf guard_slice (bin_eql eqIn_slice rfl)⟩
instance sv_neq_slice_nil [hx : EvO e x (.slice A n c)] [hy : EvO e y (.slice none m k)] [ht : Und P t (.slice et)] : StepV P e L F ⟨dst, .binOp .neq t x y u, v1, p, af, g⟩ (.bool (!A.isNone)) := ⟨fun hf _ => run_binop hf guard_slice (bin_neq eqIn_slice rfl)⟩
theorem j_buildSlice0 (E : Enc α) [ht : Und P t (.slice et)] [hs : Siz P et m] (hd : Nat.blt d N = true) (h : ∀ A, J N ((d, .slice A 0 0) :: e) (own E A 0 [] :: L) F (wpList P ops Q rest)) : J N e L F (wpList P ops Q (⟨some d, .buildSlice t 0 #[], v1, p, af, none⟩ :: rest)) :=
  j_run rfl fun act w hf hsat => by
    refine ⟨_, w.alloc (.cells #[] et), ?_, h (some ⟨w.heap.size, 0, none⟩) _ _ (hf.put hd _) (hsat.alloc _ (.inr ⟨w.heap.size, 0, [], rfl, by simp, by simp, by simp, new_cells (cs := [])⟩))⟩
    simp only [execOp, Instr.buildSlice, Sem.run_bind, Sem.run_pure, run_und, Result.andThen_ok, hs.out, Nat.zero_mul, newRow, run_newObj]
    simp [Instr.fill]
    congr 2
    apply Array.ext'
    simp
class ResC (fn : Func) (s : outParam Nat) (t : outParam TypeId) : Prop where out : fn.results = #[.cell s t]
theorem j_doneC {fn : Func} {s b o : Nat} {vs : List Value} {ex : Exit} (hx : ex = .ret ∨ ex = .normal) [hr : ResC fn s t] [gs : GetE e s (.pointer (some ⟨b, o, none⟩))] [ha : Agg P t true] [hz : Siz P t n] [cs : CAs L F b o n vs] (h : ∃ L', S (.agg vs.toArray) L' ∧ LE L L') : J N e L F (bodyPost P fn (Post F S) ex) := fun a w hf hs => by
  obtain ⟨L', hQ, hl⟩ := h
  have hg : a.tmps.getD s undef = .pointer (some ⟨b, o, none⟩) := by rw [Array.getD_eq_getD_getElem?, hf.get _ _ gs.out]; rfl
  have h1 : (results fn a.tmps).run P w = .ok (.agg vs.toArray) w := by
    unfold results
    rw [hr.out]
    have hl2 : (loadCells ⟨b, o, none⟩ n).run P w = .ok vs.toArray w := run_loadCells cs.out.1 (fun j v hj => cs.cell hs hj)
    simp only [List.mapM_toArray, List.mapM_cons, List.mapM_nil, Sem.run_bind, Sem.run_map, Sem.run_pure, hg, asAddr, loadVar, ha.out, if_true, hz.out, hl2, Result.andThen_ok]
    rfl
  rcases hx with rfl | rfl
  · exact bodyPost_ret h1 hf.defers ⟨_, L', rfl, hQ, hs.le hl⟩
  · exact bodyPost_end h1 hf.defers ⟨_, L', rfl, hQ, hs.le hl⟩
end
end Go.Proofs.YtjmicpkinflofaaDoor.S
