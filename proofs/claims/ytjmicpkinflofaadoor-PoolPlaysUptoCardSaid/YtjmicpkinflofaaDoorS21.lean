/- Engine 21: an append that fits; a slice's front; tables that stay -/
import Derived.Test.YtjmicpkinflofaaDoorS19
import Derived.Lib.LaidTab
namespace Go.Proofs.YtjmicpkinflofaaDoor.S
open Go.RowKit
set_option linter.unusedVariables false
set_option linter.unusedSimpArgs false
set_option maxRecDepth 100000
set_option maxHeartbeats 4000000
theorem Sat.appendP {α : Type} {P : Program} {E : Enc α} {L L' : List Hp} {F : Fr} {w : World} {A : Option Addr} {c n : Nat} {xs ys : List α} {sv : Value} {t t' et : TypeId} {B : Nat} {d' : TypeDesc} [ht : Und P t (.slice et)] [ht' : Und P t' d'] [hsz : Siz P et E.sz] [hB : Byt P et B] [hz : ZCells P et E.sz]
    (hnot : ∀ k, d' ≠ .int k) (hs : Sat L F w) (hn : n = xs.length) (hp : Pick (own E A c xs) L L') [src : Src P L F E sv ys] (hfit : xs.length + ys.length ≤ c) (r : TypeId) :
    ∃ w', (Builtin.append_ #[t, t'] r #[.slice A n c, sv]).run P w = .ok (.slice A (xs ++ ys).length c) w' ∧ Sat (own E A c (xs ++ ys) :: L') F w' := by
  subst hn
  obtain ⟨hlen, hsrc⟩ := src.out hs
  obtain ⟨i, hi, hib⟩ := hB.out w
  obtain ⟨z, hzr, hzs, hz1⟩ := hz.out w
  have hz0 := E.pos
  have hd1 : (match d' with | .int _ => true | _ => false) = false := by
    cases d' <;> first | rfl | (rename_i k; exact absurd rfl (hnot k))
  have hs1 : Sat (own E A c xs :: L') F w := by
    obtain ⟨h, hl, rest⟩ := hs
    exact ⟨h, (hp.stars h).1 hl, rest⟩
  have hnew := hsrc ys.length (Nat.le_refl _)
  rw [List.take_length] at hnew
  have hc : xs.length ≤ c := by
    obtain ⟨h, ⟨h1, h2, _, _, ho, _⟩, _⟩ := hs1
    exact ho.cells_split
  obtain ⟨h, ⟨h1, h2, hd, rfl, ho, hl⟩, hrest⟩ := hs1
  rcases own_iff.1 ho with ⟨rfl, rfl, rfl, rfl⟩ | ⟨b, o, sp, rfl, hc', hsp, hsp1, hcs⟩
  · have hy0 : ys = [] := by
      have : ys.length = 0 := by simpa using hfit
      exact List.length_eq_zero_iff.1 this
    subst hy0
    refine ⟨w, ?_, ⟨_, ⟨_, h2, hd, rfl, .inl ⟨rfl, rfl, rfl, rfl⟩, hl⟩, hrest⟩⟩
    have hnew' : (Builtin.firstCells E.sz 0 sv).run P w = .ok #[] w := hnew
    have hlen' : (Builtin.lenOf sv).run P w = .ok 0 w := hlen
    simp [Builtin.append_, run_und, hsz.out, hd1, hlen', hnew']
  · have hk : xs.length * E.sz + (ys.flatMap E.cells).length ≤ (xs.flatMap E.cells ++ sp).length := by
      simp only [List.length_append, flat_len, hsp]
      have : ys.length * E.sz ≤ (c - xs.length) * E.sz := Nat.mul_le_mul_right _ (by omega)
      omega
    have hov : overL (xs.flatMap E.cells ++ sp) (xs.length * E.sz) (ys.flatMap E.cells) = (xs ++ ys).flatMap E.cells ++ sp.drop (ys.length * E.sz) := by
      unfold overL
      rw [List.take_append_of_le_length (by rw [flat_len]; exact Nat.le_refl _), List.take_of_length_le (by rw [flat_len]; exact Nat.le_refl _), List.flatMap_append]
      congr 1
      rw [List.drop_append, List.drop_of_length_le (by rw [flat_len]; omega), List.nil_append, flat_len, flat_len]
      congr 1
      omega
    have st : ST (cells b o (xs.flatMap E.cells ++ sp) :: L') b (o + xs.length * E.sz) (ys.flatMap E.cells) (cells b o ((xs ++ ys).flatMap E.cells ++ sp.drop (ys.length * E.sz)) :: L') := by
      have : SetV (xs.flatMap E.cells ++ sp) (xs.length * E.sz) (ys.flatMap E.cells) ((xs ++ ys).flatMap E.cells ++ sp.drop (ys.length * E.sz)) := ⟨hk, hov⟩
      exact st_here
    obtain ⟨w', e1, e2⟩ := Sat.store (P := P) (show Sat (cells b o (xs.flatMap E.cells ++ sp) :: L') F w from ⟨_, ⟨h1, h2, hd, rfl, hcs, hl⟩, hrest⟩) st (flat_one E ys)
    refine ⟨w', ?_, ?_⟩
    · simp only [Builtin.append_, List.getElem?_toArray, List.getElem?_cons_zero, List.getElem?_cons_succ, Sem.run_bind, Sem.run_pure, run_und, Result.andThen_ok, hsz.out, hd1, Bool.false_eq_true, if_false, hlen, Bool.not_false, if_true, hfit, hnew, add_off, List.length_append, e1]
    · obtain ⟨h', ⟨k1, k2, kd, rfl, kc, kl⟩, krest⟩ := e2
      exact ⟨_, ⟨k1, k2, kd, rfl, .inr ⟨b, o, _, rfl, by simp only [List.length_append]; omega, by
        simp only [List.length_drop, hsp, List.length_append]
        rw [← Nat.sub_mul]
        congr 1
        omega, fun v hv => hsp1 v (List.mem_of_mem_drop hv), kc⟩, kl⟩, krest⟩
section
variable {α : Type} {P : Program} {N : Nat} {e : Env} {L L' : List Hp} {F : Fr} {Q : Exit → Act → World → Prop} {ops : Array Oper} {d : Nat} {t t' et : TypeId} {B : Nat} {d' : TypeDesc} {p : String} {af : Array Edge} {rest : List Oper} {x y : Operand} {v : Value} {n c m : Nat} {A : Option Addr} {xs ys : List α} {cs : List Value} {v1 : TypeId} {E : Enc α}
theorem j_appendP [hx : EvO e x (.slice A n c)] [hy : EvO e y v] [ht : Und P t (.slice et)] [ht' : Und P t' d'] [hni : NotInt d'] [hsz : Siz P et m] [hB : Byt P et B] [hz : ZCells P et m] [hp : OwnIn L A E c xs L'] [src : Src P L F E v ys] [he : EncSz E m] (hn : n = xs.length) (hfit : xs.length + ys.length ≤ c) (hd : Nat.blt d N = true)
    (h : J N ((d, .slice A (xs ++ ys).length c) :: e) (own E A c (xs ++ ys) :: L') F (wpList P ops Q rest)) :
    J N e L F (wpList P ops Q (⟨some d, .call { callee := .builtin .append, args := #[x, y], argTypes := #[t, t'] }, v1, p, af, none⟩ :: rest)) :=
  j_run rfl fun a w hf hs => by
    have e1 : E.sz = m := he.out
    subst e1
    obtain ⟨w', r1, r2⟩ := hs.appendP (P := P) (t := t) (t' := t') (et := et) (B := B) (d' := d') hni.out hn hp.out (sv := v) hfit v1
    refine ⟨_, w', ?_, h _ w' (hf.put hd _) r2⟩
    simp only [execOp, resolve, invoke, builtin, List.map_toArray, List.map_cons, List.map_nil, hx.out hf, hy.out hf, Sem.run_bind, Sem.run_pure, Result.andThen_ok, r1]
/-- A front part of a slice. -/
theorem RO.left (r : RO F E A (xs ++ ys)) : RO F E A xs := ⟨⟨fun h => r.out.fst (fun hh => h (List.append_eq_nil_iff.1 hh).1), fun i x j v hi hv => r.out.get i x j v (by rw [List.getElem?_append_left (List.getElem?_eq_some_iff.1 hi).1]; exact hi) hv⟩⟩
end
/-- A table of the library's, in what stays. -/
def TabF (P : Program) (nm : String) (k : IntKind) (zs : List Int) (F : Fr) : Prop := Lib.TabIs P F.W nm k zs
theorem TabF.ext {P : Program} {nm : String} {k : IntKind} {zs : List Int} {F F' : Fr} {Lr : List Hp} (h : TabF P nm k zs F) (hF : FrExt Lr F F') : TabF P nm k zs F' := by
  obtain ⟨_, _, _, rfl⟩ := hF
  exact h
end Go.Proofs.YtjmicpkinflofaaDoor.S
