/- Engine 25: a list, and one that was made behind it -/
import Derived.Test.YtjmicpkinflofaaDoorS21
namespace Go.Proofs.YtjmicpkinflofaaDoor.S
open Go.RowKit
set_option linter.unusedVariables false
set_option linter.unusedSimpArgs false
set_option maxRecDepth 100000
set_option maxHeartbeats 4000000
/-! ### A list, and one that was made behind it -/
def pairR {α : Type} (E : Enc α) (s t : Sl α) : Hp := fun h => (t.A = s.A ∧ t.c = s.c ∧ (∃ r, t.xs = s.xs ++ r) ∧ own E s.A s.c t.xs h) ∨ stars [own E s.A s.c s.xs, own E t.A t.c t.xs] h
theorem LE.pairSame {α : Type} {E : Enc α} {A : Option Addr} {c : Nat} {xs r : List α} {L : List Hp} : LE (own E A c (xs ++ r) :: L) (pairR E ⟨A, c, xs⟩ ⟨A, c, xs ++ r⟩ :: L) := LE.head fun h hh => .inl ⟨rfl, rfl, ⟨r, rfl⟩, hh⟩
theorem LE.pairTwo {α : Type} {E : Enc α} {s t : Sl α} {L : List Hp} : LE (own E s.A s.c s.xs :: own E t.A t.c t.xs :: L) (pairR E s t :: L) := LE.shut1 (M := [own E s.A s.c s.xs, own E t.A t.c t.xs]) fun h hh => .inr hh
theorem j_pair {α : Type} {N : Nat} {e : Env} {L L' : List Hp} {F : Fr} {K : Act → World → Prop} {E : Enc α} {s t : Sl α} (hp : Pick (pairR E s t) L L') (h1 : ∀ r, t.A = s.A → t.c = s.c → t.xs = s.xs ++ r → J N e (own E s.A s.c t.xs :: L') F K) (h2 : J N e (own E s.A s.c s.xs :: own E t.A t.c t.xs :: L') F K) : J N e L F K := fun a w hf hs => by
  obtain ⟨h, hl, hd, g1, g2, g3, g4⟩ := hs
  obtain ⟨a1, a2, hd2, rfl, hc, hr⟩ := (hp.stars h).1 hl
  rcases hc with ⟨e1, e2, ⟨r, e3⟩, ho⟩ | ho
  · exact h1 r e1 e2 e3 a w hf ⟨_, ⟨a1, a2, hd2, rfl, ho, hr⟩, hd, g1, g2, g3, g4⟩
  · refine h2 a w hf ⟨_, ?_, hd, g1, g2, g3, g4⟩
    exact stars_append (L := [own E s.A s.c s.xs, own E t.A t.c t.xs]).2 ⟨a1, a2, hd2, rfl, ho, hr⟩
theorem pair_ro {α : Type} {E : Enc α} {s t : Sl α} {Lr L' : List Hp} {F F' : Fr} (hF : FrExt Lr F F') (hp : Pick (pairR E s t) Lr L') : RO F' E s.A s.xs ∧ RO F' E t.A t.xs := by
  obtain ⟨h, hl, hd, rfl⟩ := hF
  obtain ⟨a1, a2, hd2, rfl, hc, hr⟩ := (hp.stars h).1 hl
  rcases hc with ⟨e1, e2, ⟨r, e3⟩, ho⟩ | ⟨b1, b2, hd3, rfl, ho1, b3, b4, hd4, rfl, ho2, hb4⟩
  · have hro : RO ⟨Heap.un (Heap.un a1 a2) F.h, F.W⟩ E s.A t.xs := ⟨ho.rd.mono (Heap.sub_trans Heap.sub_un_left Heap.sub_un_left)⟩
    refine ⟨?_, by rw [e1]; exact hro⟩
    rw [e3] at hro
    exact RO.left hro
  · refine ⟨⟨ho1.rd.mono (Heap.sub_trans Heap.sub_un_left (Heap.sub_trans Heap.sub_un_left Heap.sub_un_left))⟩, ⟨ho2.rd.mono ?_⟩⟩
    refine Heap.sub_trans (Heap.sub_trans Heap.sub_un_left (Heap.sub_un_right hd3)) (Heap.sub_trans Heap.sub_un_left Heap.sub_un_left)
theorem Src.there {α : Type} {P : Program} {L : List Hp} {F : Fr} {E : Enc α} {v : Value} {ys : List α} {q : Hp} (s : Src P L F E v ys) : Src P (q :: L) F E v ys := ⟨fun hs => s.out (hs.le LE.drop)⟩
section
variable {α : Type} {P : Program} {N : Nat} {e : Env} {L L' : List Hp} {F : Fr} {Q : Exit → Act → World → Prop} {ops : Array Oper} {d : Nat} {t t' et : TypeId} {B : Nat} {d' : TypeDesc} {p : String} {af : Array Edge} {rest : List Oper} {x y : Operand} {v : Value} {m : Nat} {xs ys : List α} {v1 : TypeId} {E : Enc α} {s u : Sl α}
/-- An append to the list that was made behind another: the pair stays a pair. -/
theorem j_appendPair (hp : Pick (pairR E s u) L L') [hx : EvO e x (.slice u.A u.xs.length u.c)] [hy : EvO e y v] [ht : Und P t (.slice et)] [ht' : Und P t' d'] [hni : NotInt d'] [hsz : Siz P et m] [hB : Byt P et B] [hz : ZCells P et m] (src : Src P L' F E v ys) [he : EncSz E m] (hs : ∃ r, u.xs = s.xs ++ r) (hd : Nat.blt d N = true) (hb : Nat.blt 0 B = true)
    (hlim : (u.xs.length + ys.length + (u.xs.length + ys.length) / 4 + 512) * B ≤ 281474976710656) (h : ∀ A' c', J N ((d, .slice A' (u.xs ++ ys).length c') :: e) (pairR E s ⟨A', c', u.xs ++ ys⟩ :: L') F (wpList P ops Q rest)) :
    J N e L F (wpList P ops Q (⟨some d, .call { callee := .builtin .append, args := #[x, y], argTypes := #[t, t'] }, v1, p, af, none⟩ :: rest)) := by
  obtain ⟨A, c, us⟩ := u
  obtain ⟨SA, sc, sxs⟩ := s
  dsimp only at hx hs hlim h
  refine j_pair hp ?_ ?_
  · rintro r h1 h2 h3
    dsimp only at h1 h2 h3
    subst h1 h2 h3
    have src1 : Src P (own E A c (sxs ++ r) :: L') F E v ys := Src.there src
    refine j_tell (q := (sxs ++ r).length ≤ c) (c := own E A c (sxs ++ r)) .here (fun h hh => hh.cells_split) fun hc => ?_
    by_cases hf : (sxs ++ r).length + ys.length ≤ c
    · refine j_appendP (E := E) (xs := sxs ++ r) (ys := ys) (L' := L') rfl hf hd ?_
      refine j_le ?_ (h A c)
      rw [List.append_assoc]
      exact LE.pairSame
    · refine j_appendN (E := E) (xs := sxs ++ r) (ys := ys) rfl hc hf hd hb hlim fun A' c' => ?_
      refine j_le ?_ (h A' c')
      refine LE.trans (LE.pick (c := own E A c (sxs ++ r)) (.there .here) (own_cut (n := sxs.length) (c' := c) (by rw [List.length_append]; omega) (by rw [List.length_append] at hc; omega) (Nat.le_refl _))) ?_
      rw [List.take_left]
      exact LE.pairTwo (s := ⟨A, c, sxs⟩) (t := ⟨A', c', sxs ++ r ++ ys⟩)
  · have src1 : Src P (own E SA sc sxs :: L') F E v ys := Src.there src
    have hp2 : OwnIn (own E SA sc sxs :: own E A c us :: L') A E c us (own E SA sc sxs :: L') := ⟨.there .here⟩
    have src2 : Src P (own E SA sc sxs :: own E A c us :: L') F E v ys := Src.there (Src.there src)
    refine j_append (E := E) (xs := us) (ys := ys) (hp := hp2) (src := src2) rfl hd hb hlim fun A' c' => ?_
    refine j_le ?_ (h A' c')
    refine LE.pick (c := own E SA sc sxs) (.there .here) ?_
    exact LE.pairTwo (s := ⟨SA, sc, sxs⟩) (t := ⟨A', c', us ++ ys⟩)
end
attribute [irreducible] pairR
end Go.Proofs.YtjmicpkinflofaaDoor.S
