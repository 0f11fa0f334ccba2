/- exec: what edits come to, plainly -/
import Derived.Test.YtcoohckdnefacaaEJ
namespace Go.Proofs.Ytcoohckdnefacaa.S
open Go.RowKit
set_option linter.unusedVariables false
set_option linter.unusedSimpArgs false
set_option maxRecDepth 100000
def effStep (b : List UInt8) (e : Eff) : List UInt8 := if e.kind = 3 then writeF b e.at_.toNat e.data.data.toList else if e.kind = 4 then cutF b e.n.toNat else b
def contentF (b : List UInt8) (l : List Eff) : List UInt8 := l.foldl effStep b
def byteR (s : List UInt8) (p : Nat) : List Eff → UInt8
  | [] => s.getD p 0
  | e :: r => if e.kind = 3 ∧ e.at_.toNat ≤ p ∧ p < e.at_.toNat + e.data.size then e.data.data.toList.getD (p - e.at_.toNat) 0 else if e.kind = 4 ∧ e.n.toNat ≤ p then 0 else byteR s p r
theorem dsize (s : ByteArray) : s.data.toList.length = s.size := by simp
theorem zeros_get (b : List UInt8) (k p : Nat) : (b ++ zeros k).getD p 0 = b.getD p 0 := by
  simp only [List.getD_eq_getElem?_getD]
  by_cases h : p < b.length
  · rw [List.getElem?_append_left h]
  · rw [List.getElem?_append_right (by omega), List.getElem?_eq_none (l := b) (by omega)]
    unfold zeros
    rw [List.getElem?_replicate]
    split <;> rfl
theorem write_get (b d : List UInt8) (a p : Nat) : (writeF b a d).getD p 0 = if a ≤ p ∧ p < a + d.length then d.getD (p - a) 0 else b.getD p 0 := by
  unfold writeF
  by_cases hd : d = []
  · rw [if_pos hd, if_neg (by rw [hd]; show ¬ (a ≤ p ∧ p < a + 0); omega)]
  · have hg : ∀ q, (grownF b (a + d.length)).getD q 0 = b.getD q 0 := fun q => zeros_get b _ q
    have hl := grownF_len b (a + d.length)
    rw [if_neg hd]
    generalize grownF b (a + d.length) = g at hg hl
    have ht : (g.take a).length = a := by rw [List.length_take]; omega
    simp only [List.getD_eq_getElem?_getD] at hg ⊢
    by_cases h1 : p < a
    · rw [if_neg (by omega), List.append_assoc, List.getElem?_append_left (by omega), List.getElem?_take_of_lt h1]
      exact hg p
    · by_cases h2 : p < a + d.length
      · rw [if_pos ⟨by omega, h2⟩, List.append_assoc, List.getElem?_append_right (by omega), ht, List.getElem?_append_left (by omega)]
      · rw [if_neg (by omega), List.getElem?_append_right (by rw [List.length_append]; omega), List.length_append, ht, List.getElem?_drop, show a + d.length + (p - (a + d.length)) = p by omega]
        exact hg p
theorem cut_get (b : List UInt8) (n p : Nat) : (cutF b n).getD p 0 = if n ≤ p then 0 else b.getD p 0 := by
  unfold cutF
  rw [zeros_get]
  simp only [List.getD_eq_getElem?_getD]
  by_cases h : n ≤ p
  · rw [if_pos h, List.getElem?_eq_none (by rw [List.length_take]; omega)]
    rfl
  · rw [if_neg h, List.getElem?_take_of_lt (by omega)]
theorem effStep_get (b : List UInt8) (e : Eff) (p : Nat) : (effStep b e).getD p 0 = if e.kind = 3 ∧ e.at_.toNat ≤ p ∧ p < e.at_.toNat + e.data.size then e.data.data.toList.getD (p - e.at_.toNat) 0 else if e.kind = 4 ∧ e.n.toNat ≤ p then 0 else b.getD p 0 := by
  unfold effStep
  by_cases h3 : e.kind = 3
  · rw [if_pos h3, write_get, dsize]
    by_cases h5 : e.at_.toNat ≤ p ∧ p < e.at_.toNat + e.data.size
    · rw [if_pos h5, if_pos ⟨h3, h5⟩]
    · rw [if_neg h5, if_neg (fun hh => h5 hh.2), if_neg (fun hh => by have := hh.1; omega)]
  · rw [if_neg h3]
    by_cases h4 : e.kind = 4
    · rw [if_pos h4, cut_get, if_neg (c := e.kind = 3 ∧ _) (fun hh => h3 hh.1)]
      by_cases h5 : e.n.toNat ≤ p
      · rw [if_pos h5, if_pos ⟨h4, h5⟩]
      · rw [if_neg h5, if_neg (fun hh => h5 hh.2)]
    · rw [if_neg h4, if_neg (fun hh => h3 hh.1), if_neg (fun hh => h4 hh.1)]
theorem byte_content (b : List UInt8) (p : Nat) : ∀ r : List Eff, (contentF b r.reverse).getD p 0 = byteR b p r
  | [] => rfl
  | e :: r => by
    have : contentF b (e :: r).reverse = effStep (contentF b r.reverse) e := by
      rw [List.reverse_cons]
      unfold contentF
      rw [List.foldl_append]
      rfl
    rw [this, effStep_get, byte_content b p r]
    rfl
/-! ### The steps of edits -/
theorem effF_ok (e : Edt) (file size : Int) : (effF e file size).file = file ∧ (∃ a n : Nat, (effF e file size).at_ = a ∧ (effF e file size).n = n ∧ a ≤ 200 ∧ n ≤ 200 ∧ (effF e file size).data.size ≤ 60) ∧ ((effF e file size).kind = 3 ∨ (effF e file size).kind = 4) := by
  have h1 := clipF_range e.n 0 200 (by omega)
  have h2 := clipF_range e.at_ 0 200 (by omega)
  have h3 := shortF_size e.data 60
  unfold effF
  split
  · exact ⟨rfl, ⟨0, (clipF e.n 0 200).toNat, rfl, by show clipF e.n 0 200 = _; omega, by omega, by omega, by show bE.size ≤ 60; decide⟩, .inr rfl⟩
  · exact ⟨rfl, ⟨(clipF e.at_ 0 200).toNat, 0, by show clipF e.at_ 0 200 = _; omega, rfl, by omega, by omega, h3⟩, .inl rfl⟩
theorem effsF_ok (file : Int) : ∀ (size : Int) (l : List Edt), ∀ e ∈ (effsF file size l).1, e.file = file ∧ (∃ a n : Nat, e.at_ = a ∧ e.n = n ∧ a ≤ 200 ∧ n ≤ 200 ∧ e.data.size ≤ 60) ∧ (e.kind = 3 ∨ e.kind = 4)
  | _, [], e, h => by cases h
  | size, x :: l, e, h => by
    rcases List.mem_cons.1 h with rfl | h
    · exact effF_ok x file size
    · exact effsF_ok file _ l e h
theorem step_edit {l : Live} {file : Int} {b : List UInt8} {ed : Edt} {size : Int} (hg : mget l file = some b) (hb : (b.length : Int) = size) :
    stepS l (effF ed file size) = some (mput l file (effStep b (effF ed file size)), bE) ∧ ((effStep b (effF ed file size)).length : Int) = (effF ed file size).size := by
  have h1 := clipF_range ed.n 0 200 (by omega)
  have h2 := clipF_range ed.at_ 0 200 (by omega)
  have h3 := shortF_size ed.data 60
  have hnn : ¬ (mget l file).isNone = true := by rw [hg]; simp
  cases hc : ed.cut with
  | true =>
    have e1 : effF ed file size = ⟨4, file, 0, 0, clipF ed.n 0 200, bE, clipF ed.n 0 200⟩ := by unfold effF; rw [hc]; rfl
    rw [e1]
    have e2 : effStep b ⟨4, file, 0, 0, clipF ed.n 0 200, bE, clipF ed.n 0 200⟩ = cutF b (clipF ed.n 0 200).toNat := rfl
    rw [e2]
    refine ⟨?_, by rw [cutF_len]; show ((clipF ed.n 0 200).toNat : Int) = clipF ed.n 0 200; omega⟩
    unfold stepS
    rw [if_neg (by simp), if_neg (by simp), if_neg hnn, if_neg (by simp), if_neg (by simp), if_pos rfl]
    unfold cutS
    rw [if_neg (by show ¬ (clipF ed.n 0 200 < 0 ∨ 65536 < clipF ed.n 0 200 ∨ clipF ed.n 0 200 ≠ clipF ed.n 0 200); omega)]
    show some (mput l file (cutF ((mget l file).getD []) _), bE) = _
    rw [hg]
    rfl
  | false =>
    have e1 : effF ed file size = ⟨3, file, 0, clipF ed.at_ 0 200, 0, shortF ed.data 60, if shortF ed.data 60 ≠ bE ∧ size < clipF ed.at_ 0 200 + (shortF ed.data 60).size then clipF ed.at_ 0 200 + (shortF ed.data 60).size else size⟩ := by unfold effF; rw [hc]; rfl
    have hlen : ((writeF b (clipF ed.at_ 0 200).toNat (shortF ed.data 60).data.toList).length : Int) = if shortF ed.data 60 ≠ bE ∧ size < clipF ed.at_ 0 200 + (shortF ed.data 60).size then clipF ed.at_ 0 200 + (shortF ed.data 60).size else size := by
      by_cases hd : shortF ed.data 60 = bE
      · rw [if_neg (fun hh => hh.1 hd)]
        unfold writeF
        rw [if_pos (data_nil.1 hd)]
        exact hb
      · have hne : (shortF ed.data 60).data.toList ≠ [] := fun hh => hd (data_nil.2 hh)
        rw [writeF_len hne, dsize]
        by_cases hlt : size < clipF ed.at_ 0 200 + (shortF ed.data 60).size
        · rw [if_pos ⟨hd, hlt⟩, Nat.max_eq_right (by omega)]
          omega
        · rw [if_neg (fun hh => hlt hh.2), Nat.max_eq_left (by omega)]
          exact hb
    rw [e1]
    have e2 : ∀ z, effStep b ⟨3, file, 0, clipF ed.at_ 0 200, 0, shortF ed.data 60, z⟩ = writeF b (clipF ed.at_ 0 200).toNat (shortF ed.data 60).data.toList := fun z => rfl
    rw [e2]
    refine ⟨?_, hlen⟩
    unfold stepS
    rw [if_neg (by simp), if_neg (by simp), if_neg hnn, if_neg (by simp), if_pos rfl]
    unfold writeS
    rw [if_neg (by show ¬ (clipF ed.at_ 0 200 < 0 ∨ 65536 < clipF ed.at_ 0 200 ∨ 65536 - clipF ed.at_ 0 200 < (shortF ed.data 60).size); omega)]
    show (if ((writeF ((mget l file).getD []) _ _).length : Int) = _ then some (mput l file _, bE) else none) = _
    rw [hg, Option.getD_some]
    exact if_pos hlen
def RP0 : RP := ⟨0, bE, 0, [], 0, 0⟩
theorem runStep_edit {q : Live × List RP} {e : Eff} {l' : Live} (hk : e.kind = 3 ∨ e.kind = 4) (hs : stepS q.1 e = some (l', bE)) : runStep q (stpP (stpE e)) = some (l', q.2 ++ [RP0]) := by
  rw [runStep_yes ⟨rfl, by show e.kind ≠ 0; omega⟩]
  show (stepS q.1 e).map _ = _
  rw [hs]
  show some (l', q.2 ++ [if e.kind = 2 then _ else _]) = _
  rw [if_neg (by omega)]
  rfl
theorem mput_mput {β : Type} {m : List (Int × β)} {k : Int} {x y : β} : mput (mput m k x) k y = mput m k y := by
  induction m with
  | nil => exact if_pos rfl
  | cons p m ih =>
    obtain ⟨q, z⟩ := p
    by_cases h : q = k
    · rw [show mput ((q, z) :: m) k x = (k, x) :: m from if_pos h, show mput ((k, x) :: m) k y = (k, y) :: m from if_pos rfl, show mput ((q, z) :: m) k y = (k, y) :: m from if_pos h]
    · rw [show mput ((q, z) :: m) k x = (q, z) :: mput m k x from if_neg h, show mput ((q, z) :: mput m k x) k y = (q, z) :: mput (mput m k x) k y from if_neg h, show mput ((q, z) :: m) k y = (q, z) :: mput m k y from if_neg h, ih]
theorem mput_same {β : Type} {m : List (Int × β)} {k : Int} {x : β} (h : mget m k = some x) : mput m k x = m := by
  induction m with
  | nil => cases h
  | cons p m ih =>
    obtain ⟨q, z⟩ := p
    by_cases hq : q = k
    · rw [show mget ((q, z) :: m) k = some z from if_pos hq] at h
      cases h
      rw [show mput ((q, x) :: m) k x = (k, x) :: m from if_pos hq, hq]
    · rw [show mget ((q, z) :: m) k = mget m k from if_neg hq] at h
      rw [show mput ((q, z) :: m) k x = (q, z) :: mput m k x from if_neg hq, ih h]
theorem run_edits (file : Int) : ∀ (eds : List Edt) (l : Live) (b : List UInt8) (size : Int) (rs : List RP), mget l file = some b → (b.length : Int) = size →
    ((effsF file size eds).1.map (fun e => stpP (stpE e))).foldlM runStep (l, rs) = some (mput l file (contentF b (effsF file size eds).1), rs ++ (effsF file size eds).1.map fun _ => RP0) ∧ ((contentF b (effsF file size eds).1).length : Int) = (effsF file size eds).2
  | [], l, b, size, rs, hg, hb => by
    refine ⟨?_, hb⟩
    show some (l, rs) = some (mput l file b, rs ++ [])
    rw [mput_same hg, List.append_nil]
  | ed :: eds, l, b, size, rs, hg, hb => by
    obtain ⟨h1, h2⟩ := step_edit (ed := ed) hg hb
    have h3 := runStep_edit (q := (l, rs)) (effF_ok ed file size).2.2 h1
    have hg2 : mget (mput l file (effStep b (effF ed file size))) file = some (effStep b (effF ed file size)) := mget_mput_same
    obtain ⟨h4, h5⟩ := run_edits file eds _ _ (effF ed file size).size (rs ++ [RP0]) hg2 h2
    refine ⟨?_, h5⟩
    show (runStep (l, rs) (stpP (stpE (effF ed file size))) >>= fun q => ((effsF file (effF ed file size).size eds).1.map (fun e => stpP (stpE e))).foldlM runStep q) = _
    rw [h3]
    show ((effsF file (effF ed file size).size eds).1.map (fun e => stpP (stpE e))).foldlM runStep _ = _
    rw [h4, mput_mput, List.append_assoc]
    rfl
end Go.Proofs.Ytcoohckdnefacaa.S
