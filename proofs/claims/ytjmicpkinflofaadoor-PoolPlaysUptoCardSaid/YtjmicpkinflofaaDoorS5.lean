/- The walk: what a function comes to; calls. Generic over programs. -/
import Derived.Test.YtjmicpkinflofaaDoorS4
namespace Go.Proofs.YtjmicpkinflofaaDoor.S
open Go.RowKit
set_option linter.unusedVariables false
set_option linter.unusedSimpArgs false

def Post (F : Fr) (Q : Value → List Hp → Prop) (e : Ending) (w : World) : Prop := ∃ v L, e = .returned v ∧ Q v L ∧ Sat L F w
/-- What a call comes to: of chunks that it is handed, and of what stays. -/
def Spec (P : Program) (f : FuncId) (vs : List Value) (Lp : List Hp) (R : Fr → Prop) (Q : Value → List Hp → Prop) : Prop := ∀ F w, R F → Sat Lp F w → Calls P f vs.toArray w (Post F Q)
/-- What stays, and some chunks beside it. -/
def FrExt (Lr : List Hp) (F F' : Fr) : Prop := ∃ h, stars Lr h ∧ Heap.dj h F.h ∧ F' = ⟨Heap.un h F.h, F.W⟩
class Callee (P : Program) (f : FuncId) : Prop where out : ∀ args w, (callFunc f args).run P w = .ok (.enter f args) w
class EvOs (e : Env) (xs : List Operand) (vs : outParam (List Value)) : Prop where out : ∀ {N : Nat} {a : Act}, Fits N e a → xs.map a.eval = vs
instance evOs_nil {e : Env} : EvOs e [] [] := ⟨fun _ => rfl⟩
instance evOs_cons {e : Env} {x : Operand} {xs : List Operand} {v : Value} {vs : List Value} [h : EvO e x v] [g : EvOs e xs vs] : EvOs e (x :: xs) (v :: vs) := ⟨fun hf => by rw [List.map_cons, h.out hf, g.out hf]⟩
section
variable {P : Program} {N : Nat} {e : Env} {L L' Lp Lr : List Hp} {F : Fr} {Q : Exit → Act → World → Prop} {ops : Array Oper} {d : Nat} {dst : Option Nat} {t : TypeId} {p : String} {af : Array Edge} {rest : List Oper} {v : Value} {v1 : TypeId} {f : FuncId} {vs : List Value} {R : Fr → Prop} {S : Value → List Hp → Prop}
theorem calls_frame (spec : Spec P f vs Lp R S) (hp : Picks Lp L Lr) (hR : ∀ F', FrExt Lr F F' → R F') {w : World} (hs : Sat L F w) : Calls P f vs.toArray w fun e w' => ∃ v L', e = .returned v ∧ S v L' ∧ Sat (L' ++ Lr) F w' := by
  obtain ⟨h, hl, hd, s1, s2, s3, s4⟩ := hs
  obtain ⟨h1, h2, hd12, rfl, hl1, hl2⟩ := stars_append.1 ((hp.stars h).1 hl)
  obtain ⟨d1, d2⟩ := Heap.dj_un_left.1 hd
  refine (spec ⟨Heap.un h2 F.h, F.W⟩ w (hR _ ⟨h2, hl2, d2, rfl⟩) ⟨h1, hl1, Heap.dj_un_right.2 ⟨hd12, d1⟩, Heap.sub_left s1, Heap.sub_un (Heap.sub_right hd12 s1) s2, fun b o c hc => s3 b o c (Heap.un_left hc), s4⟩).mono ?_
  rintro e w' ⟨v, L', rfl, hS, h', hl', hd', s1', s2', s3', s4'⟩
  obtain ⟨d3, d4⟩ := Heap.dj_un_right.1 hd'
  exact ⟨v, L', rfl, hS, Heap.un h' h2, stars_append.2 ⟨h', h2, d3, rfl, hl', hl2⟩, Heap.dj_un_left.2 ⟨d4, d2⟩, Heap.sub_un s1' (Heap.sub_left s2'), Heap.sub_right d2 s2',
    fun b o c hc => by
      rcases Heap.un_some.1 hc with h5 | ⟨_, h5⟩
      · exact s3' b o c h5
      · exact s3 b o c (Heap.un_right hd12 h5), s4'⟩
theorem run_call {a : Act} {w : World} {xs : List Operand} {ats : Array TypeId} [hc : Callee P f] [hx : EvOs e xs vs] {g : Option (Nat × Bool)} (hf : Fits N e a) :
    (execOp a.eval ⟨dst, .call { callee := .value (.func f), args := xs.toArray, argTypes := ats }, v1, p, af, g⟩).run P w = .ok (.enter f vs.toArray) w := by
  have h1 : (xs.toArray.map a.eval) = vs.toArray := by rw [List.map_toArray, hx.out hf]
  simp only [execOp, resolve, h1, Act.eval, Deferred.ofValue, invoke, Sem.run_bind, Sem.run_pure, Result.andThen_ok, Array.empty_append, Array.append_empty, hc.out]
theorem j_call {xs : List Operand} {ats : Array TypeId} [hc : Callee P f] [hx : EvOs e xs vs] (spec : Spec P f vs Lp R S) (hd : Nat.blt d N = true) (hp : Picks Lp L Lr) (hR : ∀ F', FrExt Lr F F' → R F')
    (k : ∀ v L', S v L' → J N ((d, v) :: e) (L' ++ Lr) F (wpList P ops Q rest)) : J N e L F (wpList P ops Q (⟨some d, .call { callee := .value (.func f), args := xs.toArray, argTypes := ats }, v1, p, af, none⟩ :: rest)) := fun a w hf hs => by
  unfold wpList
  rw [if_pos (wanted_none rfl _)]
  left
  unfold Oper.wp
  rw [run_call hf, Oper.upon_enter]
  refine (calls_frame spec hp hR hs).mono ?_
  rintro e' w' ⟨v, L', rfl, hS, hs'⟩
  exact k v L' hS _ w' (hf.put hd v) hs'
theorem j_gcall {xs : List Operand} {ats : Array TypeId} {j d' : Nat} {b : Bool} [hc : Callee P f] [hx : EvOs e xs vs] [hj : DstA ops j d'] [y : GetE e d' (.bool b)] (spec : Spec P f vs Lp R S) (hd : Nat.blt d N = true) (hp : Picks Lp L Lr) (hR : ∀ F', FrExt Lr F F' → R F')
    (k : ∀ v L', S v L' → J N ((d, v) :: e) (L' ++ Lr) F (wpList P ops Q rest)) : J N e L F (wpList P ops Q (⟨some d, .call { callee := .value (.func f), args := xs.toArray, argTypes := ats }, v1, p, af, some (j, b)⟩ :: rest)) := fun a w hf hs => by
  unfold wpList
  rw [if_pos (by simp [Region.wanted, yielded_of hf hj.out])]
  left
  unfold Oper.wp
  rw [run_call hf, Oper.upon_enter]
  refine (calls_frame spec hp hR hs).mono ?_
  rintro e' w' ⟨v, L', rfl, hS, hs'⟩
  exact k v L' hS _ w' (hf.put hd v) hs'
/-! ### In and out -/
/-- The slots of the parameters. -/
class ArgE (vs : List Value) (e : outParam Env) : Prop where out : ∀ t v, Env.get e t = some v → vs[t]? = some v
theorem argE_of : ∀ (vs : List Value) (n : Nat) (e : Env), e = (vs.zipIdx n).map (fun q => (q.2, q.1)) → ∀ t v, Env.get e t = some v → n ≤ t ∧ vs[t - n]? = some v
  | [], n, e, he, t, v, h => by subst he; cases h
  | u :: vs, n, e, he, t, v, h => by
    subst he
    simp only [List.zipIdx_cons, List.map_cons] at h
    unfold Env.get at h
    by_cases ht : Nat.beq n t = true
    · rw [if_pos ht] at h
      have := Nat.eq_of_beq_eq_true ht
      subst this
      cases h
      simp
    · rw [if_neg ht] at h
      obtain ⟨h1, h2⟩ := argE_of vs (n + 1) _ rfl t v h
      refine ⟨by omega, ?_⟩
      rw [show t - n = (t - (n + 1)) + 1 by omega, List.getElem?_cons_succ]
      exact h2
theorem argE_mk (vs : List Value) : ∀ t v, Env.get ((vs.zipIdx 0).map (fun q => (q.2, q.1))) t = some v → vs[t]? = some v := fun t v h => (argE_of vs 0 _ rfl t v h).2
instance argE_0 : ArgE [] [] := ⟨argE_mk []⟩
instance argE_1 {a : Value} : ArgE [a] [(0, a)] := ⟨argE_mk [a]⟩
instance argE_2 {a b : Value} : ArgE [a, b] [(0, a), (1, b)] := ⟨argE_mk [a, b]⟩
instance argE_3 {a b c : Value} : ArgE [a, b, c] [(0, a), (1, b), (2, c)] := ⟨argE_mk [a, b, c]⟩
instance argE_4 {a b c d : Value} : ArgE [a, b, c, d] [(0, a), (1, b), (2, c), (3, d)] := ⟨argE_mk [a, b, c, d]⟩
instance argE_5 {a b c d e : Value} : ArgE [a, b, c, d, e] [(0, a), (1, b), (2, c), (3, d), (4, e)] := ⟨argE_mk [a, b, c, d, e]⟩
instance argE_6 {a b c d e f : Value} : ArgE [a, b, c, d, e, f] [(0, a), (1, b), (2, c), (3, d), (4, e), (5, f)] := ⟨argE_mk [a, b, c, d, e, f]⟩
instance argE_7 {a b c d e f g : Value} : ArgE [a, b, c, d, e, f, g] [(0, a), (1, b), (2, c), (3, d), (4, e), (5, f), (6, g)] := ⟨argE_mk [a, b, c, d, e, f, g]⟩
theorem spec_of {fn : Func} {c : Code} (hf : P.funcs[f]? = some fn) (hb : fn.body = some c) (hn : fn.ntmps = N) [ha : ArgE vs e] (h : ∀ F, R F → J N e Lp F (c.wp P (bodyPost P fn (Post F S)))) : Spec P f vs Lp R S := fun F w hR hs => by
  refine calls_of_wp hf hb (h F hR _ w ⟨rfl, ?_, fun t v hv => ?_⟩ hs)
  · simp only [Array.size_append, Array.size_replicate, List.size_toArray]
    omega
  · have h2 := ha.out t v hv
    have hlt := (List.getElem?_eq_some_iff.1 h2).1
    show (vs.toArray ++ _)[t]? = some v
    rw [Array.getElem?_append_left (by simpa using hlt), List.getElem?_toArray]
    exact h2
class GetEs (e : Env) (ts : List Nat) (vs : outParam (List Value)) : Prop where out : ∀ {N : Nat} {a : Act}, Fits N e a → ts.map (fun t => a.tmps.getD t undef) = vs
instance getEs_nil {e : Env} : GetEs e [] [] := ⟨fun _ => rfl⟩
instance getEs_cons {e : Env} {t : Nat} {ts : List Nat} {v : Value} {vs : List Value} [h : GetE e t v] [g : GetEs e ts vs] : GetEs e (t :: ts) (v :: vs) := ⟨fun hf => by
  rw [List.map_cons, g.out hf, Array.getD_eq_getD_getElem?, hf.get _ _ h.out]; rfl⟩
/-- One result, or several together. -/
class Result1 (vs : List Value) (v : outParam Value) : Prop where out : v = if h : vs.length = 1 then vs[0] else .tuple vs.toArray
instance result1_none : Result1 [] (.tuple #[]) := ⟨rfl⟩
instance result1_one {v : Value} : Result1 [v] v := ⟨rfl⟩
instance result1_more {u v : Value} {vs : List Value} : Result1 (u :: v :: vs) (.tuple (u :: v :: vs).toArray) := ⟨by simp⟩
theorem run_results {fn : Func} {ts : List Nat} (hr : fn.results = (ts.map ResultVar.tmp).toArray) (tmps : Array Value) (w : World) :
    (results fn tmps).run P w = .ok (let vs := ts.map (fun t => tmps.getD t undef); if h : vs.length = 1 then vs[0] else .tuple vs.toArray) w := by
  have key : ∀ (g : ResultVar → Sem Value), (∀ t, (g (.tmp t)).run P w = .ok (tmps.getD t undef) w) → ∀ (ts : List Nat), ((ts.map ResultVar.tmp).mapM g).run P w = .ok (ts.map (fun t => tmps.getD t undef)) w := by
    intro g hg ts
    induction ts with
    | nil => rfl
    | cons t ts ih =>
      rw [List.map_cons, List.mapM_cons]
      simp only [Sem.run_bind, Sem.run_pure, Result.andThen_ok, hg]
      rw [ih]
      simp only [Result.andThen_ok, List.map_cons]
  unfold results
  rw [hr, List.mapM_toArray]
  simp only [Sem.run_bind, Sem.run_map, Sem.run_pure]
  rw [key _ (fun t => rfl)]
  simp only [Result.andThen_ok, List.size_toArray, List.length_map, List.getElem_toArray]
/-- A function's result slots. -/
class ResT (fn : Func) (ts : outParam (List Nat)) : Prop where out : fn.results = (ts.map ResultVar.tmp).toArray
theorem j_done {fn : Func} {ts : List Nat} {x : Exit} (hx : x = .ret ∨ x = .normal) [hr : ResT fn ts] [g : GetEs e ts vs] [r : Result1 vs v] (h : ∃ L', S v L' ∧ LE L L') : J N e L F (bodyPost P fn (Post F S) x) := fun a w hf hs => by
  obtain ⟨L', hQ, hl⟩ := h
  have h1 : (results fn a.tmps).run P w = .ok v w := by
    rw [run_results hr.out, r.out]
    simp only [g.out hf]
  rcases hx with rfl | rfl
  · exact bodyPost_ret h1 hf.defers ⟨v, L', rfl, hQ, hs.le hl⟩
  · exact bodyPost_end h1 hf.defers ⟨v, L', rfl, hQ, hs.le hl⟩
end
/-! ### Chunks that are told by what they hold -/
def exs (Qx : List Hp → Prop) : Hp := fun h => ∃ M, Qx M ∧ stars M h
theorem j_exs {N : Nat} {e : Env} {L L' : List Hp} {F : Fr} {R : Act → World → Prop} {Qx : List Hp → Prop} {c : Hp} (hc : c = exs Qx) (hp : Pick c L L') (k : ∀ M, Qx M → J N e (M ++ L') F R) : J N e L F R := fun a w hf ⟨h, hl, rest⟩ => by
  subst hc
  obtain ⟨h1, h2, hd, rfl, ⟨M, hM, hs⟩, hl2⟩ := (hp.stars h).1 hl
  exact k M hM a w hf ⟨_, stars_append.2 ⟨h1, h2, hd, rfl, hs, hl2⟩, rest⟩
theorem LE.fold {L L' M : List Hp} {Qx : List Hp → Prop} {c : Hp} (hc : c = exs Qx) (hQ : Qx M) (hp : Picks M L L') : LE L (c :: L') := fun h hl => by
  subst hc
  obtain ⟨h1, h2, hd, rfl, hM, hL⟩ := stars_append.1 ((hp.stars h).1 hl)
  exact ⟨_, Heap.sub_refl, h1, h2, hd, rfl, ⟨M, hQ, hM⟩, hL⟩
theorem j_fold {N : Nat} {e : Env} {L L' M : List Hp} {F : Fr} {R : Act → World → Prop} {Qx : List Hp → Prop} (c : Hp) (hc : c = exs Qx) (hQ : Qx M) (hp : Picks M L L') (k : J N e (c :: L') F R) : J N e L F R := j_le (LE.fold hc hQ hp) k
theorem LE.nilR {L : List Hp} : LE L [] := LE.nil
/-- A fact that a chunk tells. -/
theorem j_tell {N : Nat} {e : Env} {L L' : List Hp} {F : Fr} {R : Act → World → Prop} {c : Hp} {q : Prop} (hp : Pick c L L') (hq : ∀ h, c h → q) (k : q → J N e L F R) : J N e L F R := fun a w hf hs => by
  obtain ⟨h, hl, rest⟩ := hs
  obtain ⟨h1, h2, hd, rfl, hc, hl2⟩ := (hp.stars h).1 hl
  exact k (hq h1 hc) a w hf ⟨_, hl, rest⟩
/-! ### What stays, of a caller and of what it calls -/
theorem FrExt.ro_own {α : Type} {Lr : List Hp} {F F' : Fr} {A : Option Addr} {E : Enc α} {xs : List α} [r : RdL Lr F A E xs] (h : FrExt Lr F F') : RO F' E A xs := by
  obtain ⟨k, hk, hd, rfl⟩ := h
  exact ⟨r.out hk hd⟩
theorem FrExt.sub {Lr : List Hp} {F F' : Fr} (h : FrExt Lr F F') : Heap.sub F.h F'.h := by
  obtain ⟨k, hk, hd, rfl⟩ := h
  exact Heap.sub_un_right hd
/-- From a contract of the kit's: what was there stays. -/
theorem spec_of_below {P : Program} {f : FuncId} {vs : List Value} {Lp : List Hp} {R : Fr → Prop} {S : Value → List Hp → Prop} (h : ∀ F w, R F → Sat Lp F w → Calls P f vs.toArray w fun e w' => ∃ v L, e = .returned v ∧ S v L ∧ Below w.heap.size w w' ∧ (Sat Lp F w' → Sat L F w')) : Spec P f vs Lp R S :=
  fun F w hR hs => (h F w hR hs).mono fun e w' ⟨v, L, he, hS, hb, hk⟩ => ⟨v, L, he, hS, hk (hs.below hb)⟩
theorem Spec.mono {P : Program} {f : FuncId} {vs : List Value} {Lp : List Hp} {R : Fr → Prop} {S S' : Value → List Hp → Prop} (h : Spec P f vs Lp R S) (hs : ∀ v L, S v L → S' v L) : Spec P f vs Lp R S' :=
  fun F w hR hsat => (h F w hR hsat).mono fun e w' ⟨v, L, he, hS, hk⟩ => ⟨v, L, he, hs v L hS, hk⟩
/-- A law's whole call. -/
theorem Spec.law {P : Program} {f : FuncId} {vs : List Value} {R : Fr → Prop} (h : Spec P f vs [] R (fun v L => v = .bool true)) (w : World) (hR : R ⟨wat w, w⟩) : Calls P f vs.toArray w fun e w' => e = .returned (.bool true) ∧ Below w.heap.size w w' := by
  refine (h ⟨wat w, w⟩ w hR ⟨Heap.emp, rfl, Heap.emp_dj, (fun _ _ _ hc => by cases hc), Heap.sub_refl, (fun _ _ _ hc => by cases hc), Below.refl _ _⟩).mono ?_
  rintro e w' ⟨v, L, rfl, rfl, k, _, _, _, _, _, hb⟩
  exact ⟨rfl, hb⟩
end Go.Proofs.YtjmicpkinflofaaDoor.S
