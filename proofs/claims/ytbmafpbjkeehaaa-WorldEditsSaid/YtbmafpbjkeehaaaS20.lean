/- Engine 20: rows that are written as a whole (the kit's sorting). -/
import Derived.Test.YtbmafpbjkeehaaaS19
import Derived.Shelf.Sort.Plain
import Derived.Shelf.Slices.In.SortNone
namespace Go.Proofs.Ytbmafpbjkeehaaa.S
open Go.RowKit Go.Sort
set_option linter.unusedVariables false
set_option linter.unusedSimpArgs false
set_option maxRecDepth 100000
set_option maxHeartbeats 4000000
/-- A world that differs in a row alone, and by what is new. -/
theorem Sat.laid {L L' : List Hp} {F : Fr} {w w' : World} {b o : Nat} {cs : List Value} (hs : Sat L F w) (st : ST L b o cs L') (hw : ∀ b' o' c, hput (wat w) b o cs b' o' = some c → wat w' b' o' = some c) (hb : ∀ B, B ≤ b → RowKit.Below B w w') (hb0 : cs ≠ []) : Sat L' F w' := by
  obtain ⟨h, hl, hd, s1, s2, s3, s4⟩ := hs
  obtain ⟨p1, p2⟩ := st.out hl
  refine ⟨hput h b o cs, p2, hput_dj_left hd p1, fun b' o' c hc => hw _ _ _ ?_, fun b' o' c hc => hw _ _ _ ?_, fun b' o' c hc => ?_, ?_⟩
  · unfold hput at hc ⊢
    split
    · rename_i hh; rw [if_pos hh] at hc; exact hc
    · rename_i hh; rw [if_neg hh] at hc; exact s1 _ _ _ hc
  · unfold hput
    split
    · rename_i hh
      obtain ⟨rfl, g1, g2⟩ := hh
      obtain ⟨u, hu⟩ := p1 (o' - o) (by omega)
      rw [show o + (o' - o) = o' by omega] at hu
      rcases hd b' o' with h5 | h5
      · rw [h5] at hu; cases hu
      · rw [h5] at hc; cases hc
    · exact s2 _ _ _ hc
  · cases h5 : h b' o' with
    | none => rw [(hput_mem p1).2 h5] at hc; cases hc
    | some c' => exact s3 _ _ _ h5
  · obtain ⟨u, hu⟩ := p1 0 (by cases cs; exact absurd rfl hb0; simp)
    exact s4.trans (hb _ (s3 _ _ _ hu))
theorem wat_grow {w : World} {os : Array Obj} {b o : Nat} {c : Cell} (h : wat w b o = some c) : wat (grow w os) b o = some c := by
  unfold wat at h ⊢
  cases hb : w.heap[b]? with
  | none => rw [hb] at h; cases h
  | some x =>
    rw [hb] at h
    obtain ⟨hlt, _⟩ := Array.getElem?_eq_some_iff.1 hb
    have : (grow w os).heap[b]? = some x := by
      unfold grow
      simp only
      rw [Array.getElem?_append_left hlt, hb]
    rw [this]
    exact h
theorem wat_putRow {α : Type} [Inhabited α] {enc : α → Value} {w : World} {b o : Nat} {d : Array α} (hh : ∀ j, j < d.size → ∃ u, wat w b (o + j) = some (.val u false)) {b' o' : Nat} {c : Cell} (h : hput (wat w) b o (d.toList.map enc) b' o' = some c) : wat (putRow enc w b o d) b' o' = some c := by
  unfold hput at h
  have hl : (d.toList.map enc).length = d.size := by simp
  rw [hl] at h
  unfold putRow mapBlock
  split at h
  · rename_i hr
    obtain ⟨rfl, g1, g2⟩ := hr
    obtain ⟨u, hu⟩ := hh (o' - o) (by omega)
    rw [show o + (o' - o) = o' by omega] at hu
    unfold wat at hu ⊢
    simp only [Array.getElem?_modify]
    cases hb : w.heap[b']? with
    | none => rw [hb] at hu; cases hu
    | some x =>
      rw [hb] at hu
      cases x with
      | cells cc t fr =>
        simp only at hu
        obtain ⟨v, hv, hvc⟩ := Option.map_eq_some_iff.1 hu
        cases hfr : (decide (fr.1 ≤ o') && decide (o' < fr.2)) with
        | true => rw [hfr] at hvc; cases hvc
        | false =>
          simp only [if_true, Option.map_some, onCells, putCells, Array.getElem?_mapIdx, hv, hfr]
          rw [if_pos ⟨g1, g2⟩]
          have e1 : (d.toList.map enc)[o' - o]? = some (enc d[o' - o]!) := by
            rw [List.getElem?_map, Array.getElem?_toList, Array.getElem?_eq_getElem (by omega), getElem!_pos d _ (by omega)]
            rfl
          rw [e1] at h
          simpa using h
      | _ => 
        simp only at hu
        split at hu <;> cases hu
  · rename_i hr
    unfold wat at h ⊢
    simp only [Array.getElem?_modify]
    by_cases hbb : b = b'
    · subst hbb
      cases hb : w.heap[b]? with
      | none => rw [hb] at h; cases h
      | some x =>
        rw [hb] at h
        cases x with
        | cells cc t fr =>
          simp only at h
          obtain ⟨v, hv, hvc⟩ := Option.map_eq_some_iff.1 h
          simp only [if_true, Option.map_some, onCells, putCells, Array.getElem?_mapIdx, hv]
          rw [if_neg (fun hq => hr ⟨rfl, hq.1, hq.2⟩)]
          rw [← hvc]
        | _ => simpa [onCells] using h
    · rw [if_neg hbb]
      exact h
def strL (s : ByteArray) : List UInt8 := s.data.toList
def strB (l : List UInt8) : ByteArray := ⟨l.toArray⟩
/-- Strings, rising. -/
def sortS (xs : List ByteArray) : List ByteArray := ((xs.map strL).mergeSort fun x y => decide (x ≤ y)).map strB
theorem strB_strL (s : ByteArray) : strB (strL s) = s := rfl
theorem sortS_len (xs : List ByteArray) : (sortS xs).length = xs.length := by simp [sortS, List.length_mergeSort]
theorem below_ahead {w : World} (n B : Nat) : RowKit.Below B w (Sort.ahead w n) := ⟨rfl, rfl, rfl, Nat.le_refl _, fun _ _ => rfl⟩
theorem spec_sort {P : Program} {f : FuncId} (h0 : ∀ p c w, Calls P f #[.slice p 0 c] w fun e w' => e = .returned (.tuple #[]) ∧ w' = w)
    (h1 : ∀ (blk off cap : Nat) (ss : List (List UInt8)) (w : World), Holds encStr w blk off ss.toArray → blk < w.heap.size → ss.length < 4611686018427387904 → Calls P f #[.slice (some ⟨blk, off, none⟩) ss.length cap] w fun e w' => e = .returned (.tuple #[]) ∧ ∃ n os, w' = grow (putRow encStr (Sort.ahead w n) blk off (ss.mergeSort fun x y => decide (x ≤ y)).toArray) os)
    (A : Option Addr) (c : Nat) (xs : List ByteArray) (hl : xs.length < 4611686018427387904) : Spec P f [.slice A xs.length c] [own encS A c xs] (fun _ => True) (fun v L => v = .tuple #[] ∧ L = [own encS A c (sortS xs)]) := fun F w _ hs => by
  by_cases hx : xs = []
  · subst hx
    refine (h0 A c w).mono fun e w' ⟨he, hw⟩ => ⟨_, _, he, ⟨rfl, rfl⟩, ?_⟩
    rw [hw, show sortS [] = [] from List.length_eq_zero_iff.1 (by rw [sortS_len]; rfl)]
    exact hs
  obtain ⟨h, ⟨g1, g2, hd, rfl, ho, hl0⟩, hrest⟩ := hs
  rcases own_iff.1 ho with ⟨rfl, rfl, rfl, rfl⟩ | ⟨b, o, sp, rfl, hc, hsp, hsp1, hcs⟩
  · exact absurd rfl hx
  have hs1 : Sat [cells b o (xs.flatMap encS.cells ++ sp)] F w := ⟨_, ⟨g1, g2, hd, rfl, hcs, hl0⟩, hrest⟩
  have hvs : ∀ (ys : List ByteArray), ys.flatMap encS.cells = ys.map Value.string := fun ys => by
    induction ys with
    | nil => rfl
    | cons y ys ih => rw [List.flatMap_cons, ih]; rfl
  have hcell : ∀ j (s : ByteArray), xs[j]? = some s → wat w b (o + j) = some (.val (.string s) false) := fun j s hj => by
    refine hrest.2.1 _ _ _ (Heap.un_left ?_)
    unfold cells at hcs
    rw [hcs]
    simp only [Nat.le_add_right, and_self, if_true, Nat.add_sub_cancel_left]
    have hjl : j < xs.length := (List.getElem?_eq_some_iff.1 hj).1
    rw [List.getElem?_append_left (by rw [hvs, List.length_map]; exact hjl), hvs, List.getElem?_map, hj]
    rfl
  have hx0 : ∃ s, xs[0]? = some s := by
    cases xs with
    | nil => exact absurd rfl hx
    | cons x _ => exact ⟨x, rfl⟩
  obtain ⟨s0, hs0⟩ := hx0
  have hblk : b < w.heap.size := by
    have := hcell 0 s0 hs0
    unfold wat at this
    cases hb : w.heap[b]? with
    | none => rw [hb] at this; cases this
    | some x => exact (Array.getElem?_eq_some_iff.1 hb).1
  have hH : Holds encStr w b o (xs.map strL).toArray := fun j hj => by
    have hjl : j < xs.length := by simpa using hj
    have hxj := List.getElem?_eq_getElem hjl
    have hw := hcell j _ hxj
    rw [getElem!_pos (xs.map strL).toArray j hj]
    simp only [List.getElem_toArray, List.getElem_map]
    show _ = some (Value.string (strB (strL xs[j]))) ∧ _
    rw [strB_strL]
    unfold wat at hw
    unfold World.cell? World.frozen?
    cases hb : w.heap[b]? with
    | none => rw [hb] at hw; cases hw
    | some y =>
      rw [hb] at hw
      cases y with
      | cells cc t fr =>
        simp only at hw
        obtain ⟨v, hv, hvc⟩ := Option.map_eq_some_iff.1 hw
        simp only [Cell.val.injEq] at hvc
        obtain ⟨rfl, hf⟩ := hvc
        simp [hv, hf]
      | _ =>
        simp only at hw
        split at hw <;> cases hw
  have hcall := h1 b o c (xs.map strL) w hH hblk (by simpa using hl)
  rw [List.length_map] at hcall
  refine hcall.mono fun e w' ⟨he, n, os, hw'⟩ => ⟨_, _, he, ⟨rfl, rfl⟩, ?_⟩
  generalize hss : (xs.map strL).mergeSort (fun x y => decide (x ≤ y)) = ss at hw'
  have hsl : ss.length = xs.length := by rw [← hss, List.length_mergeSort, List.length_map]
  have hsort : sortS xs = ss.map strB := by unfold sortS; rw [hss]
  have hst : ST [cells b o (xs.flatMap encS.cells ++ sp)] b o (ss.map encStr) [cells b o ((sortS xs).flatMap encS.cells ++ sp)] := by
    have : SetV (xs.flatMap encS.cells ++ sp) 0 (ss.map encStr) ((sortS xs).flatMap encS.cells ++ sp) := ⟨by rw [hvs]; simp [hsl], by
      rw [hvs, hvs, hsort]
      unfold overL
      simp only [List.take_zero, List.nil_append, Nat.zero_add, List.length_map, hsl]
      rw [List.drop_append, List.drop_of_length_le (by simp), List.nil_append, List.length_map, Nat.sub_self, List.drop_zero, List.map_map]
      rfl⟩
    exact st_here0
  have hfin : Sat [cells b o ((sortS xs).flatMap encS.cells ++ sp)] F w' := by
    refine Sat.laid hs1 hst (fun b' o' c' hc' => ?_) (fun B hB => ?_) (fun hn => ?_)
    · rw [hw']
      refine wat_grow (wat_putRow (w := Sort.ahead w n) (fun j hj => ?_) ?_)
      · have hjl : j < xs.length := by simpa [hsl] using hj
        exact ⟨_, hcell j _ (List.getElem?_eq_getElem hjl)⟩
      · exact hc'
    · rw [hw']
      refine RowKit.Below.trans (below_ahead n B) ⟨rfl, rfl, rfl, ?_, fun k hk => ?_⟩
      · unfold grow putRow mapBlock
        simp [Sort.ahead]
      · unfold grow putRow mapBlock
        have hkb : k < b := by omega
        have : k < (w.heap.modify b (onCells (putCells encStr o ss.toArray))).size := by simp; omega
        simp only [Sort.ahead]
        rw [Array.getElem?_append_left this, Array.getElem?_modify, if_neg (by omega)]
    · have : ss.length = 0 := by
        have := congrArg List.length hn
        simpa using this
      rw [hsl] at this
      exact hx (List.length_eq_zero_iff.1 this)
  obtain ⟨h', ⟨k1, k2, kd, rfl, kc, kl⟩, krest⟩ := hfin
  exact ⟨_, ⟨k1, k2, kd, rfl, own_iff.2 (.inr ⟨b, o, sp, rfl, by rw [sortS_len]; exact hc, by rw [sortS_len]; exact hsp, hsp1, kc⟩), kl⟩, krest⟩
end Go.Proofs.Ytbmafpbjkeehaaa.S
