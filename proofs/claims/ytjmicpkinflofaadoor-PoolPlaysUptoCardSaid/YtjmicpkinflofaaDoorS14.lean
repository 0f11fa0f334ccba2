/- The walk: bytes and strings, appends of zeros, calls of values, chunks of many. Generic over programs. -/
import Derived.Test.YtjmicpkinflofaaDoorS13
import Derived.Laws.IdiomStrings
import Derived.IntWalk
namespace Go.Proofs.YtjmicpkinflofaaDoor.S
open Go.RowKit
set_option linter.unusedVariables false
set_option linter.unusedSimpArgs false
/-! ### A string's bytes -/
theorem new_cells_fr {w : World} {cs : List Value} {t : TypeId} {m : Nat} : cells w.heap.size 0 cs (fun b o => if b = w.heap.size then wat (w.alloc (.cells cs.toArray t (cs.length, m))) b o else none) := by
  rw [cells_iff]
  refine Heap.ext' fun b o => ?_
  by_cases hb : b = w.heap.size
  · subst hb
    rw [if_pos rfl, if_pos ⟨rfl, Nat.zero_le _⟩, Nat.sub_zero]
    have : (w.alloc (.cells cs.toArray t (cs.length, m))).heap[w.heap.size]? = some (.cells cs.toArray t (cs.length, m)) := by
      show (w.heap.push _)[w.heap.size]? = _
      simp
    unfold wat
    rw [this]
    simp only [List.getElem?_toArray]
    by_cases ho : o < cs.length
    · rw [List.getElem?_eq_getElem ho]
      simp [Nat.not_le.2 ho]
    · rw [List.getElem?_eq_none (by omega)]
      rfl
  · rw [if_neg hb, if_neg (fun hh => hb hh.1)]
section
variable {P : Program} {N : Nat} {e : Env} {L L' Lp Lr : List Hp} {F : Fr} {Q : Exit → Act → World → Prop} {W : List Oper → Act → World → Prop} {ops : Array Oper} {d : Nat} {dst : Option Nat} {t t' et v1 : TypeId} {p : String} {af : Array Edge} {g : Option (Nat × Bool)} {rest : List Oper} {x y z : Operand} {v : Value} {s : ByteArray} {A : Option Addr} {n c : Nat}
theorem bytes_flat (l : List UInt8) : l.flatMap encU.cells = l.map fun b => Value.int .u8 (b.toNat : Int) := by
  induction l with
  | nil => rfl
  | cons b l ih => rw [List.flatMap_cons, ih]; rfl
theorem Sat.strBytes {w : World} (hs : Sat L F w) (h1 : P.underlying t = some .string) (h2 : P.underlying t' = some (.slice et)) (h3 : P.underlying et = some (.int .u8)) : ∃ A c w', (convert t t' (.string s)).run P w = .ok (.slice A s.size c) w' ∧ Sat (own encU A c s.data.toList :: L) F w' := by
  refine ⟨_, _, _, run_bytes_of_string w t t' et s h1 h2 h3, ?_⟩
  have hc : s.size ≤ grownCap w s.size 0 et := by
    unfold grownCap
    show _ ≤ s.size + _
    omega
  generalize grownCap w s.size 0 et = c at hc
  have e1 : bytesRow s c = (s.data.toList.flatMap encU.cells ++ List.replicate (c - s.size) (Value.int .u8 0)).toArray := by
    unfold bytesRow
    rw [bytes_flat]
    apply Array.ext'
    simp
  have e2 : (bytesRow s c).size = (s.data.toList.flatMap encU.cells ++ List.replicate (c - s.size) (Value.int .u8 0)).length := by rw [e1]; simp
  rw [e2, e1]
  have e3 : w.heap.size = w.drew.heap.size := rfl
  have hl : s.data.toList.length = s.size := by simp
  refine (Sat.drew hs).alloc _ (own.inr ⟨w.drew.heap.size, 0, List.replicate (c - s.size) (Value.int .u8 0), rfl, by omega, ?_, fun v hv => by rw [List.eq_of_mem_replicate hv]; rfl, new_cells_fr⟩)
  rw [List.length_replicate, hl]
  show _ = _ * 1
  omega
theorem j_strBytes [hx : EvO e x (.string s)] [ht : Und P t .string] [ht' : Und P t' (.slice et)] [he : Und P et (.int .u8)] (hd : Nat.blt d N = true) (h : ∀ A c, J N ((d, .slice A s.size c) :: e) (own encU A c s.data.toList :: L) F (wpList P ops Q rest)) :
    J N e L F (wpList P ops Q (⟨some d, .convert t t' x, v1, p, af, none⟩ :: rest)) :=
  j_run rfl fun a w hf hs => by
    obtain ⟨A, c, w', e1, e2⟩ := hs.strBytes (s := s) ht.out ht'.out he.out
    refine ⟨_, w', ?_, h A c _ w' (hf.put hd _) e2⟩
    simp only [execOp, hx.out hf, Sem.run_bind, Sem.run_pure, Result.andThen_ok, e1]
/-- A string of a slice's bytes. -/
theorem bytesStr_run {w : World} {xs : List UInt8} (h1 : P.underlying t = some (.slice et)) (h2 : P.underlying et = some (.int .u8)) (h3 : P.underlying t' = some .string) (r : RdL L F A encU xs) (hs : Sat L F w) :
    (convert t t' (.slice A xs.length c)).run P w = .ok (.string ⟨xs.toArray⟩) w := by
  have hs0 := hs
  obtain ⟨h, hl, hd, _, _, _⟩ := hs
  have hr := r.out hl hd
  cases xs with
  | nil =>
    cases A with
    | none => simp [convert, run_underlying h1, run_underlying h2, run_underlying h3, Conv.bytesToString]; rfl
    | some a => exact run_convert_bytes_back w t t' et a c [] h1 h2 h3 (fun j hj => by simp at hj)
  | cons x0 xs0 =>
    have hA := hr.fst (by simp)
    rw [hA]
    refine run_convert_bytes_back w t t' et _ c (x0 :: xs0) h1 h2 h3 (fun j hj => ?_)
    have := hs0.cellOf (b := ablk A) (o := aoff A + j) (v := .int .u8 ((x0 :: xs0)[j].toNat : Int)) fun {k} hl' hd' => by
      obtain ⟨fr, hfr⟩ := (r.out hl' hd').get j _ 0 _ (List.getElem?_eq_getElem hj) rfl
      rw [show j * encU.sz + 0 = j from by show j * 1 + 0 = j; omega] at hfr
      exact ⟨fr, hfr⟩
    rwa [← add_off] at this
theorem bytesStrN_run {w : World} {xs : List UInt8} {m : Nat} (h1 : P.underlying t = some (.slice et)) (h2 : P.underlying et = some (.int .u8)) (h3 : P.underlying t' = some .string) (r : RdL L F A encU xs) (hm : m ≤ xs.length) (hs : Sat L F w) :
    (convert t t' (.slice A m c)).run P w = .ok (.string ⟨(xs.take m).toArray⟩) w := by
  have hl : (xs.take m).length = m := by rw [List.length_take]; omega
  have := bytesStr_run (P := P) (t := t) (t' := t') (et := et) (c := c) (xs := xs.take m) h1 h2 h3 ⟨fun hl hd => (r.out hl hd).take m⟩ hs
  rwa [hl] at this
instance (priority := high) sv_bytesStr {xs : List UInt8} [hx : EvO e x (.slice A xs.length c)] [ht : Und P t (.slice et)] [he : Und P et (.int .u8)] [ht' : Und P t' .string] [r : RdL L F A encU xs] : StepV P e L F ⟨dst, .convert t t' x, v1, p, af, g⟩ (.string ⟨xs.toArray⟩) := ⟨fun {N a w} hf hs => by
  simp only [execOp, hx.out hf, Sem.run_bind, Sem.run_pure, Result.andThen_ok, bytesStr_run ht.out he.out ht'.out r hs]⟩
instance (priority := low) sv_bytesStrN {xs : List UInt8} {m : Nat} [hx : EvO e x (.slice A m c)] [ht : Und P t (.slice et)] [he : Und P et (.int .u8)] [ht' : Und P t' .string] [r : RdL L F A encU xs] [hm : Ft (m ≤ xs.length)] : StepV P e L F ⟨dst, .convert t t' x, v1, p, af, g⟩ (.string ⟨(xs.take m).toArray⟩) := ⟨fun {N a w} hf hs => by
  simp only [execOp, hx.out hf, Sem.run_bind, Sem.run_pure, Result.andThen_ok, bytesStrN_run ht.out he.out ht'.out r hm.out hs]⟩
/-- x[:h:m]. -/
instance sv_slice_clip {i j : Int} {hi m sz : Nat} {ki kj : IntKind} [hx : EvO e x (.slice A n c)] [hy : EvO e y (.int ki i)] [hi' : NatIdx i hi] [hz : EvO e z (.int kj j)] [hj : NatIdx j m] [ht : Und P t (.slice et)] [hs : Siz P et sz] [h1 : Ft (hi ≤ m)] [h2 : Ft (m ≤ c)] : StepV P e L F ⟨dst, .slice t x none (some y) (some z), v1, p, af, g⟩ (.slice A hi m) := ⟨fun {N a w} hf hsat => by
  have e1 := hi'.out
  have e2 := hj.out
  have g1 := h1.out
  have g2 := h2.out
  subst e1 e2
  have b1 : ((0 : Int) ≤ (m : Int) ∧ (m : Int) ≤ (c : Int)) := by omega
  have b2 : ((0 : Int) ≤ (hi : Int) ∧ (hi : Int) ≤ (m : Int)) := by omega
  have h0 : (if m = 0 then A else A.map (·.add (0 * sz))) = A := by
    split
    · rfl
    · cases A <;> simp [Addr.add]
  have r : (Instr.sliceAt t (.slice A n c) none (some (.int ki (hi : Int))) (some (.int kj (m : Int)))).run P w = .ok (.slice A hi m) w := by
    simp only [Instr.sliceAt, Instr.slice, Instr.sliceBounds, Instr.sliceBound, asIntOf, Sem.run_bind, Sem.run_pure, run_und, Result.andThen_ok, hs.out, b1, b2, and_self, if_true, Int.toNat_natCast, Bool.false_eq_true, if_false, h0, Nat.sub_zero]
  simp only [execOp, Option.map_some, Option.map_none, hx.out hf, hy.out hf, hz.out hf, Sem.run_bind, r, Result.andThen_ok, Sem.run_pure]⟩
/-- A string's bytes, to be appended or copied. -/
instance src_str : Src P L F encU (.string s) s.data.toList := ⟨fun {w} hs => by
  have hl : s.data.toList.length = s.size := by simp
  refine ⟨by rw [hl]; rfl, fun m hm => ?_⟩
  rw [hl] at hm
  show Sem.run P (pure ((s.extract 0 m).data.map fun b => Value.int .u8 b.toNat)) w = _
  rw [Sem.run_pure]
  congr 1
  apply Array.ext'
  rw [bytes_flat]
  simp [ByteArray.data_extract]⟩
/-! ### Calls of values -/
theorem run_callv {f : FuncId} {vs : List Value} {a : Act} {w : World} {xs : List Operand} {ats : Array TypeId} {k : Operand} [hk : EvO e k (.func (.func f) #[] #[])] [hc : Callee P f] [hx : EvOs e xs vs] (hf : Fits N e a) :
    (execOp a.eval ⟨dst, .call { callee := .value k, args := xs.toArray, argTypes := ats }, v1, p, af, g⟩).run P w = .ok (.enter f vs.toArray) w := by
  have h1 : (xs.toArray.map a.eval) = vs.toArray := by rw [List.map_toArray, hx.out hf]
  simp only [execOp, resolve, h1, hk.out hf, Deferred.ofValue, invoke, Sem.run_bind, Sem.run_pure, Result.andThen_ok, Array.empty_append, Array.append_empty, hc.out]
theorem j_callv {f : FuncId} {vs : List Value} {R : Fr → Prop} {S : Value → List Hp → Prop} {xs : List Operand} {ats : Array TypeId} {k : Operand} [hk : EvO e k (.func (.func f) #[] #[])] [hc : Callee P f] [hx : EvOs e xs vs] (spec : Spec P f vs Lp R S) (hd : Nat.blt d N = true) (hp : Picks Lp L Lr) (hR : ∀ F', FrExt Lr F F' → R F')
    (h : ∀ v L', S v L' → J N ((d, v) :: e) (L' ++ Lr) F (wpList P ops Q rest)) : J N e L F (wpList P ops Q (⟨some d, .call { callee := .value k, args := xs.toArray, argTypes := ats }, v1, p, af, none⟩ :: rest)) := fun a w hf hs => by
  unfold wpList
  rw [if_pos (wanted_none rfl _)]
  left
  unfold Oper.wp
  rw [run_callv hf, Oper.upon_enter]
  refine (calls_frame spec hp hR hs).mono ?_
  rintro e' w' ⟨v, L', rfl, hS, hs'⟩
  exact h v L' hS _ w' (hf.put hd v) hs'
end
/-! ### Appends of zeros -/
theorem Sat.appendZ {α : Type} {P : Program} {E : Enc α} {L L' : List Hp} {F : Fr} {w : World} {A : Option Addr} {c n : Nat} {xs : List α} {x0 : α} {t t' et : TypeId} {B : Nat} {kd kv : IntKind} [ht : Und P t (.slice et)] [ht' : Und P t' (.int kd)] [hsz : Siz P et E.sz] [hB : Byt P et B] [hz : ZeroE P et E x0]
    (hs : Sat L F w) (hn : n = xs.length) (hp : Pick (own E A c xs) L L') (m : Nat) (hb : 0 < B) (hlim : (xs.length + m + (xs.length + m) / 4 + 512) * B ≤ 281474976710656) (r : TypeId) :
    ∃ A' c' w', (Builtin.append_ #[t, t'] r #[.slice A n c, .int kv (m : Int)]).run P w = .ok (.slice A' (xs ++ List.replicate m x0).length c') w' ∧ Sat (own E A' c' (xs ++ List.replicate m x0) :: L') F w' := by
  subst hn
  have hz0 := E.pos
  have hle2 : (xs.length + m + (xs.length + m) / 4 + 512) ≤ (xs.length + m + (xs.length + m) / 4 + 512) * B := Nat.le_mul_of_pos_right _ hb
  have hwrap : IntKind.i64.wrap (m : Int) = (m : Int) := IntWalk.i64_in _ (by omega)
  have hlz : ∀ w : World, ∃ z, (zeroValue et).run P w = .ok z w ∧ z.cells.toList = E.cells x0 := hz.out
  have happ : ∀ w : World, ((if m * E.sz = 0 then (pure #[] : Sem (Array Value)) else do pure (Builtin.zeroCells (← zeroValue et).cells m))).run P w = .ok ((List.replicate m x0).flatMap E.cells).toArray w := fun w => by
    by_cases hm : m * E.sz = 0
    · have : m = 0 := by rcases Nat.mul_eq_zero.1 hm with h | h <;> omega
      subst this
      rw [if_pos hm]
      rfl
    · rw [if_neg hm]
      obtain ⟨z, hz1, hz2⟩ := hlz w
      have hzs : z.cells.size = E.sz := by rw [← Array.length_toList, hz2, E.len]
      simp only [Sem.run_bind, hz1, Result.andThen_ok, Sem.run_pure]
      congr 1
      apply Array.ext'
      have := zero_flat E (x0 := x0) hz2 m
      unfold Builtin.zeroCells
      rw [hzs]
      rw [← hzs] at this ⊢
      exact this
  obtain ⟨i, hi, hib⟩ := hB.out w
  have hs1 : Sat (own E A c xs :: L') F w := by
    obtain ⟨h, hl, rest⟩ := hs
    exact ⟨h, (hp.stars h).1 hl, rest⟩
  have hc : xs.length ≤ c := by
    obtain ⟨h, ⟨h1, h2, _, _, ho, _⟩, _⟩ := hs1
    exact ho.cells_split
  have hmB : ¬ ((m : Int) * (i.bytes : Int) > 2 ^ 48) := by
    rw [hib]
    have h3 : m * B ≤ (xs.length + m + (xs.length + m) / 4 + 512) * B := Nat.mul_le_mul_right _ (by omega)
    have h4 : (m : Int) * (B : Int) = ((m * B : Nat) : Int) := by simp
    rw [h4]
    omega
  have hmB2 : ¬ ((m : Int) * (B : Int) > 2 ^ 48) := by rw [hib] at hmB; exact hmB
  have hm0 : ¬ ((m : Int) < 0) := by omega
  have hrl : (List.replicate m x0).length = m := List.length_replicate
  have hasz : (asInt (.int kv (m : Int))) = pure (m : Int) := rfl
  by_cases hfit : xs.length + m ≤ c
  · obtain ⟨h, ⟨h1, h2, hd, rfl, ho, hl⟩, hrest⟩ := hs1
    rcases own_iff.1 ho with ⟨rfl, rfl, rfl, rfl⟩ | ⟨b, o, sp, rfl, hc', hsp, hsp1, hcs⟩
    · have hm1 : m = 0 := by simpa using hfit
      have happ' := happ w
      have hr0 : List.replicate m x0 = [] := by rw [hm1]; rfl
      refine ⟨none, 0, w, ?_, ⟨_, ⟨_, h2, hd, rfl, own.inl ⟨rfl, by rw [hr0]; rfl, rfl, rfl⟩, hl⟩, hrest⟩⟩
      simp only [Builtin.append_, List.getElem?_toArray, List.getElem?_cons_zero, List.getElem?_cons_succ, Sem.run_bind, Sem.run_pure, run_und, Result.andThen_ok, hsz.out, hasz, hwrap, hm0, hi, hmB, if_false, if_true, Int.toNat_natCast, Bool.not_true, Bool.false_eq_true, hfit, happ', List.length_append, hrl]
    · have hk : xs.length * E.sz + ((List.replicate m x0).flatMap E.cells).length ≤ (xs.flatMap E.cells ++ sp).length := by
        simp only [List.length_append, flat_len, hsp, hrl]
        have : m * E.sz ≤ (c - xs.length) * E.sz := Nat.mul_le_mul_right _ (by omega)
        omega
      have hov : overL (xs.flatMap E.cells ++ sp) (xs.length * E.sz) ((List.replicate m x0).flatMap E.cells) = (xs ++ List.replicate m x0).flatMap E.cells ++ sp.drop (m * E.sz) := by
        unfold overL
        rw [List.take_append_of_le_length (by rw [flat_len]; exact Nat.le_refl _), List.take_of_length_le (by rw [flat_len]; exact Nat.le_refl _), List.flatMap_append]
        congr 1
        rw [List.drop_append, List.drop_of_length_le (by rw [flat_len]; omega), List.nil_append, flat_len, flat_len, hrl]
        congr 1
        omega
      have st : ST (cells b o (xs.flatMap E.cells ++ sp) :: L') b (o + xs.length * E.sz) ((List.replicate m x0).flatMap E.cells) (cells b o ((xs ++ List.replicate m x0).flatMap E.cells ++ sp.drop (m * E.sz)) :: L') := by
        have : SetV (xs.flatMap E.cells ++ sp) (xs.length * E.sz) ((List.replicate m x0).flatMap E.cells) ((xs ++ List.replicate m x0).flatMap E.cells ++ sp.drop (m * E.sz)) := ⟨hk, hov⟩
        exact st_here
      obtain ⟨w', e1, e2⟩ := Sat.store (P := P) (show Sat (cells b o (xs.flatMap E.cells ++ sp) :: L') F w from ⟨_, ⟨h1, h2, hd, rfl, hcs, hl⟩, hrest⟩) st (flat_one E _)
      have happ' := happ w
      refine ⟨some ⟨b, o, none⟩, c, w', ?_, ?_⟩
      · simp only [Builtin.append_, List.getElem?_toArray, List.getElem?_cons_zero, List.getElem?_cons_succ, Sem.run_bind, Sem.run_pure, run_und, Result.andThen_ok, hsz.out, hasz, hwrap, hm0, hi, hmB, if_false, if_true, Int.toNat_natCast, Bool.not_true, Bool.false_eq_true, hfit, happ', add_off, List.length_append, hrl, e1]
      · obtain ⟨h', ⟨k1, k2, kd, rfl, kc, kl⟩, krest⟩ := e2
        exact ⟨_, ⟨k1, k2, kd, rfl, own.inr ⟨b, o, _, rfl, by simp only [List.length_append, hrl]; omega, by
          simp only [List.length_drop, hsp, List.length_append, hrl]
          rw [← Nat.sub_mul]
          congr 1
          omega, fun v hv => hsp1 v (List.mem_of_mem_drop hv), kc⟩, kl⟩, krest⟩
  · have hnc := nextcap_le (need := xs.length + m) (cap := c) (by omega)
    have h48 : ¬ Builtin.nextslicecap (xs.length + m) c * B > 2 ^ 48 := by
      have : Builtin.nextslicecap (xs.length + m) c * B ≤ (xs.length + m + (xs.length + m) / 4 + 512) * B := Nat.mul_le_mul_right _ hnc
      omega
    have hint : ¬ ((xs.length + m : Nat) : Int) > IntKind.i64.max := by rw [show IntKind.i64.max = 9223372036854775807 from rfl]; omega
    have hq : (Question.appendCap (xs.length + m) c et).forced = false := rfl
    have happ2 := happ { w with drawn := w.drawn + 1 }
    have hold2 : (Builtin.firstCells E.sz xs.length (.slice A xs.length c)).run P { w with drawn := w.drawn + 1 } = .ok (xs.flatMap E.cells).toArray { w with drawn := w.drawn + 1 } := by
      have r : RdL (own E A c xs :: L') F A E xs := rdL_here
      have := (take_cells (P := P) (c := c) r.out hs1.drew xs.length (Nat.le_refl _)).2 c
      rwa [List.take_length] at this
    obtain ⟨i2, hi2, hib2⟩ := hB.out { w with drawn := w.drawn + 1 }
    obtain ⟨z2, hzr2, hzs2⟩ := hlz { w with drawn := w.drawn + 1 }
    have hzs3 : z2.cells.size = E.sz := by rw [← Array.length_toList, hzs2, E.len]
    have hz12 : ∀ v ∈ z2.cells, v.oneCell' = true := fun v hv => E.one x0 v (by rw [← hzs2]; exact Array.mem_toList_iff.2 hv)
    obtain ⟨nc, hnc2⟩ : ∃ nc, (Question.appendCap (xs.length + m) c et).cut (w.tape w.drawn (.appendCap (xs.length + m) c et)) = nc := ⟨_, rfl⟩
    have hge : xs.length + m ≤ nc := by
      rw [← hnc2]
      show _ ≤ (xs.length + m) + _
      omega
    refine ⟨some ⟨w.heap.size, 0, none⟩, nc, ({ w with drawn := w.drawn + 1 } : World).alloc (.cells ((xs ++ List.replicate m x0).flatMap E.cells ++ (Builtin.zeroCells z2.cells (nc - (xs.length + m))).toList).toArray et), ?_, ?_⟩
    · simp only [Builtin.append_, List.getElem?_toArray, List.getElem?_cons_zero, List.getElem?_cons_succ, Sem.run_bind, Sem.run_pure, run_und, Result.andThen_ok, hsz.out, hasz, hwrap, hm0, hi, hmB, hmB2, hib, h48, hint, false_and, if_false, if_true, Int.toNat_natCast, Bool.not_true, Bool.false_eq_true, hfit, run_choose, hq, hnc2, hi2, run_askRoom, hold2, happ2, hzr2, newRow, run_newObj, List.length_append, hrl, World.alloc]
      congr 3
      congr 1
      apply Array.ext'
      simp [List.flatMap_append]
    · have hs3 := (hs.le (LE.pick hp LE.drop)).drew
      refine hs3.alloc _ (own.inr ⟨w.heap.size, 0, (Builtin.zeroCells z2.cells (nc - (xs.length + m))).toList, rfl, by simp only [List.length_append, hrl]; exact hge, ?_, fun v hv => hz12 v (zeroCells_mem (by rw [hzs3]; exact hz0) v (Array.mem_toList_iff.1 hv)), new_cells (w := { w with drawn := w.drawn + 1 })⟩)
      rw [Array.length_toList, zeroCells_len, hzs3, List.length_append, hrl]
section
variable {α : Type} {P : Program} {N : Nat} {e : Env} {L L' : List Hp} {F : Fr} {Q : Exit → Act → World → Prop} {ops : Array Oper} {d : Nat} {t t' et : TypeId} {B : Nat} {kd kv : IntKind} {p : String} {af : Array Edge} {rest : List Oper} {x y : Operand} {n c m k : Nat} {i : Int} {A : Option Addr} {xs : List α} {x0 : α} {v1 : TypeId} {E : Enc α}
theorem j_appendZ [hx : EvO e x (.slice A n c)] [hy : EvO e y (.int kv i)] [hi : NatIdx i m] [ht : Und P t (.slice et)] [ht' : Und P t' (.int kd)] [hsz : Siz P et k] [hB : Byt P et B] [hp : OwnIn L A E c xs L'] [he : EncSz E k] [hz : ZeroE P et E x0] (hn : n = xs.length) (hd : Nat.blt d N = true) (hb : Nat.blt 0 B = true)
    (hlim : (xs.length + m + (xs.length + m) / 4 + 512) * B ≤ 281474976710656) (h : ∀ A' c', J N ((d, .slice A' (xs ++ List.replicate m x0).length c') :: e) (own E A' c' (xs ++ List.replicate m x0) :: L') F (wpList P ops Q rest)) :
    J N e L F (wpList P ops Q (⟨some d, .call { callee := .builtin .append, args := #[x, y], argTypes := #[t, t'] }, v1, p, af, none⟩ :: rest)) :=
  j_run rfl fun a w hf hs => by
    have e1 : E.sz = k := he.out
    subst e1
    have e2 : i = (m : Int) := hi.out
    subst e2
    have hb' : 0 < B := by simpa [Nat.blt_eq] using hb
    obtain ⟨A', c', w', r1, r2⟩ := hs.appendZ (P := P) (t := t) (t' := t') (et := et) (B := B) (kd := kd) (kv := kv) (x0 := x0) hn hp.out m hb' hlim v1
    refine ⟨_, w', ?_, h A' c' _ w' (hf.put hd _) r2⟩
    simp only [execOp, resolve, invoke, builtin, List.map_toArray, List.map_cons, List.map_nil, hx.out hf, hy.out hf, Sem.run_bind, Sem.run_pure, Result.andThen_ok, r1]
end
/-! ### Chunks of many -/
def allR {α : Type} (R : α → Hp) (l : List α) : Hp := stars (l.map R)
section
variable {α : Type} {R : α → Hp} {l m : List α} {x y : α} {L L' : List Hp} {N : Nat} {e : Env} {F : Fr} {K : Act → World → Prop}
theorem stars_perm {L M : List Hp} (hp : L.Perm M) : ∀ h, stars L h → stars M h := by
  induction hp with
  | nil => exact fun h hh => hh
  | cons c _ ih => rintro h ⟨h1, h2, hd, rfl, hc, hl⟩; exact ⟨h1, h2, hd, rfl, hc, ih _ hl⟩
  | swap c d L =>
    rintro h ⟨h1, h2, hd, rfl, hc, h3, h4, hd2, rfl, hc2, hl⟩
    obtain ⟨d1, d2⟩ := Heap.dj_un_right.1 hd
    refine ⟨h3, Heap.un h1 h4, Heap.dj_un_right.2 ⟨Heap.dj_comm d1, hd2⟩, ?_, hc2, h1, h4, d2, rfl, hc, hl⟩
    rw [← Heap.un_assoc, ← Heap.un_assoc, Heap.un_comm d1]
  | trans _ _ ih1 ih2 => exact fun h hh => ih2 h (ih1 h hh)
theorem LE.perm {L M : List Hp} (hp : L.Perm M) : LE L M := fun h hh => ⟨h, Heap.sub_refl, stars_perm hp h hh⟩
theorem LE.allNil : LE L (allR R [] :: L) := fun h hh => ⟨h, Heap.sub_refl, Heap.emp, h, Heap.emp_dj, Heap.emp_un.symm, rfl, hh⟩
theorem LE.open1 {c : Hp} {M : List Hp} (hc : ∀ h, c h → stars M h) : LE (c :: L) (M ++ L) := fun h hh => by
  obtain ⟨h1, h2, hd, rfl, h3, h4⟩ := hh
  exact ⟨_, Heap.sub_refl, stars_append.2 ⟨h1, h2, hd, rfl, hc _ h3, h4⟩⟩
theorem LE.shut1 {c : Hp} {M : List Hp} (hc : ∀ h, stars M h → c h) : LE (M ++ L) (c :: L) := fun h hh => by
  obtain ⟨h1, h2, hd, rfl, h3, h4⟩ := stars_append.1 hh
  exact ⟨_, Heap.sub_refl, ⟨h1, h2, hd, rfl, hc _ h3, h4⟩⟩
/-- One of many, and the others. -/
theorem LE.allOut {m : List α} (hm : l.Perm (x :: m)) : LE (allR R l :: L) (R x :: allR R m :: L) := by
  have h1 : LE (allR R l :: L) ((R x :: m.map R) ++ L) := LE.open1 fun h hh => stars_perm (hm.map R) h hh
  have h2 : LE ((R x :: m.map R) ++ L) (R x :: allR R m :: L) := LE.cons (LE.shut1 (fun h hh => hh))
  exact h1.trans h2
theorem LE.allIn {m : List α} (hm : (x :: m).Perm l) : LE (R x :: allR R m :: L) (allR R l :: L) := by
  have h1 : LE (R x :: allR R m :: L) ((R x :: m.map R) ++ L) := LE.cons (LE.open1 fun h hh => hh)
  have h2 : LE ((R x :: m.map R) ++ L) (allR R l :: L) := LE.shut1 fun h hh => stars_perm (hm.map R) h hh
  exact h1.trans h2
theorem perm_erase {k : Nat} (hx : l[k]? = some x) : l.Perm (x :: l.eraseIdx k) := by
  induction l generalizing k with
  | nil => simp at hx
  | cons a l ih =>
    cases k with
    | zero => simp at hx; subst hx; exact .refl _
    | succ k =>
      simp at hx
      rw [List.eraseIdx_cons_succ]
      exact ((ih hx).cons a).trans (.swap _ _ _)
theorem perm_set {k : Nat} (hx : l[k]? = some x) : (y :: l.eraseIdx k).Perm (l.set k y) := by
  induction l generalizing k with
  | nil => simp at hx
  | cons a l ih =>
    cases k with
    | zero => exact .refl _
    | succ k =>
      simp at hx
      rw [List.eraseIdx_cons_succ, List.set_cons_succ]
      exact (List.Perm.swap _ _ _).trans ((ih hx).cons a)
theorem LE.allAt {k : Nat} (hx : l[k]? = some x) : LE (allR R l :: L) (R x :: allR R (l.eraseIdx k) :: L) := LE.allOut (perm_erase hx)
theorem LE.allSet {k : Nat} (hx : l[k]? = some x) : LE (R y :: allR R (l.eraseIdx k) :: L) (allR R (l.set k y) :: L) := LE.allIn (perm_set hx)
theorem LE.allSnoc : LE (R x :: allR R l :: L) (allR R (l ++ [x]) :: L) := LE.allIn (List.perm_append_singleton x l).symm
end
attribute [irreducible] allR
end Go.Proofs.YtjmicpkinflofaaDoor.S
