/- world: Adopt -/
import Derived.Test.YtbmafpbjkeehaaaWK
namespace Go.Proofs.Ytbmafpbjkeehaaa.S
open Go.RowKit
set_option linter.unusedVariables false
set_option linter.unusedSimpArgs false
set_option maxRecDepth 100000
set_option maxHeartbeats 4000000
instance sv_index_arr {P : Program} {e : Env} {L : List Hp} {F : Fr} {d : Option Nat} {t et v1 : TypeId} {p : String} {af : Array Edge} {g : Option (Nat × Bool)} {x y : Operand} {ki : IntKind} {j n : Nat} {vs : List Value} {v : Value} [hx : EvO e x (.agg vs.toArray)] [hy : EvO e y (.int ki ((j : Nat) : Int))] [ht : Und P t (.array n et)] [ha : Agg P et false] [hz : Siz P et 1] [hj : Ft (j < n)] [hn : NthV vs j v] : StepV P e L F ⟨d, .index t x y, v1, p, af, g⟩ v := ⟨fun hf hs => by
  have hb : 0 ≤ ((j : Nat) : Int) ∧ ((j : Nat) : Int) < (n : Int) := ⟨by omega, by have := hj.out; omega⟩
  simp only [execOp, hx.out hf, hy.out hf, Instr.index, asIntOf, Sem.run_bind, Sem.run_pure, Result.andThen_ok, run_und, hb, and_self, if_true, hz.out, Int.toNat_natCast, Nat.mul_one, part, ha.out, Bool.false_eq_true, if_false, List.getElem?_toArray, hn.out]⟩
instance sv_build_two {P : Program} {e : Env} {L : List Hp} {F : Fr} {d : Option Nat} {t et v1 : TypeId} {p : String} {af : Array Edge} {g : Option (Nat × Bool)} {x y : Operand} {a b : ByteArray} [hx : EvO e x (.string a)] [hy : EvO e y (.string b)] [ht : Und P t (.array 2 et)] [hs : Siz P et 1] [hz : ZCells P t 2] : StepV P e L F ⟨d, .build t #[(0, x), (1, y)], v1, p, af, g⟩ (.agg [.string a, .string b].toArray) := ⟨fun {N act w} hf hsat => by
  obtain ⟨z, hz1, hz2, _⟩ := hz.out w
  obtain ⟨u, v, huv⟩ : ∃ u v, z.cells = #[u, v] := by
    generalize z.cells = zc at hz2
    obtain ⟨l⟩ := zc
    match l, hz2 with
    | [u, v], _ => exact ⟨u, v, rfl⟩
  simp only [execOp, Instr.build, hz1, huv, Sem.run_bind, Sem.run_pure, Result.andThen_ok, run_und, hs.out, List.map_toArray, List.map_cons, List.map_nil, hx.out hf, hy.out hf]
  rfl⟩
def adoptL : Wd → List Blb → Wd × Int
  | σ, [] => (σ, 0)
  | σ, x :: l => if (mget σ.objs x.name).isSome = true ∨ labB x.name = false then (σ, 1) else if 1048576 < x.blob.size then (σ, 3) else adoptL (setW σ x.name x.blob) l
def tagB (t : ByteArray) : Bool := decide (t = ⟨#[]⟩) || decide (t.size = 16)
def adoptF (blobs : List Blb) (r : Reg) : Option Wd × Int := if (adoptL Wd.new blobs).2 ≠ 0 then (none, (adoptL Wd.new blobs).2) else if tagB r.cur = true ∧ tagB r.pend = true then (some { (adoptL Wd.new blobs).1 with reg := r }, 0) else (none, 1)
def AdoptQ (q : Option Wd × Int) (v : Value) (L : List Hp) : Prop := match q with
  | (none, e) => v = .tuple #[.pointer none, .int .i64 e] ∧ L = []
  | (some σ, e) => ∃ b, v = .tuple #[ptr b 0, .int .i64 e] ∧ L = [worldR b σ]
set_option synthInstance.maxHeartbeats 400000
set_option synthInstance.maxSize 4000
attribute [local irreducible] wpList Code.wp Exit.then Exit.inBlock stillR bodyPost hR J Back Mid
theorem adopt_spec (A : Option Addr) (c : Nat) (blobs : List Blb) (r : Reg) (hl : blobs.length ≤ 5000000000000) : Spec Try.prog 18 [.slice A blobs.length c, regV r] [] (fun F => RO F encBlb A blobs) (AdoptQ (adoptF blobs r)) := by
  generalize hq : adoptF blobs r = q
  unfold adoptF at hq
  generalize hR : adoptL Wd.new blobs = R at hq
  have hnew := new_spec
  unfold regV
  unfold ptr at hnew
  refine spec_of Try.func18 rfl Try.ntmps18 fun F hF => ?_
  have ro := hF
  repeat (first | refine j_addN (by omega) rfl ?_ | refine j_subN (by omega) rfl ?_ | refine j_mulN (by omega) rfl ?_ | refine j_remN (by omega) rfl ?_ | refine j_addI (by omega) (by omega) rfl ?_ | refine j_subI (by omega) (by omega) rfl ?_ | refine j_op rfl ?_ | refine j_pickF rfl ?_ | refine j_pickT rfl ?_ | refine j_region ?_ | refine j_nil ?_ | refine j_then ?_ | refine j_mono (by assumption) ?_ | (refine j_seq fun K hK => ?_) | refine j_gdo rfl ?_ | refine j_gskip_t rfl ?_ | refine j_gskip_f rfl ?_ | refine j_gskip_u rfl ?_ | refine j_gspec rfl ?_ | refine j_block ?_ | refine j_ret ?_ | refine j_then_ret ?_ | refine j_in_ret ?_ | refine j_in_normal ?_ | refine j_exit ?_ | refine j_then_exit ?_ | refine j_in_exit ?_ | refine j_in_past ?_ | refine j_skip ?_ | refine j_cond_t ?_ | refine j_cond_f ?_ | refine j_store rfl ?_ | refine j_still_nil ?_)
  refine j_box rfl fun b3 => ?_
  repeat (first | refine j_addN (by omega) rfl ?_ | refine j_subN (by omega) rfl ?_ | refine j_mulN (by omega) rfl ?_ | refine j_remN (by omega) rfl ?_ | refine j_addI (by omega) (by omega) rfl ?_ | refine j_subI (by omega) (by omega) rfl ?_ | refine j_op rfl ?_ | refine j_pickF rfl ?_ | refine j_pickT rfl ?_ | refine j_region ?_ | refine j_nil ?_ | refine j_then ?_ | refine j_mono (by assumption) ?_ | (refine j_seq fun K hK => ?_) | refine j_gdo rfl ?_ | refine j_gskip_t rfl ?_ | refine j_gskip_f rfl ?_ | refine j_gskip_u rfl ?_ | refine j_gspec rfl ?_ | refine j_block ?_ | refine j_ret ?_ | refine j_then_ret ?_ | refine j_in_ret ?_ | refine j_in_normal ?_ | refine j_exit ?_ | refine j_then_exit ?_ | refine j_in_exit ?_ | refine j_in_past ?_ | refine j_skip ?_ | refine j_cond_t ?_ | refine j_cond_f ?_ | refine j_store rfl ?_ | refine j_still_nil ?_)
  refine j_call hnew rfl .nil (fun _ _ => trivial) ?_
  rintro _ _ ⟨b, rfl, rfl⟩
  simp only [List.cons_append, List.nil_append]
  repeat (first | refine j_addN (by omega) rfl ?_ | refine j_subN (by omega) rfl ?_ | refine j_mulN (by omega) rfl ?_ | refine j_remN (by omega) rfl ?_ | refine j_addI (by omega) (by omega) rfl ?_ | refine j_subI (by omega) (by omega) rfl ?_ | refine j_op rfl ?_ | refine j_pickF rfl ?_ | refine j_pickT rfl ?_ | refine j_region ?_ | refine j_nil ?_ | refine j_then ?_ | refine j_mono (by assumption) ?_ | (refine j_seq fun K hK => ?_) | refine j_gdo rfl ?_ | refine j_gskip_t rfl ?_ | refine j_gskip_f rfl ?_ | refine j_gskip_u rfl ?_ | refine j_gspec rfl ?_ | refine j_block ?_ | refine j_ret ?_ | refine j_then_ret ?_ | refine j_in_ret ?_ | refine j_in_normal ?_ | refine j_exit ?_ | refine j_then_exit ?_ | refine j_in_exit ?_ | refine j_in_past ?_ | refine j_skip ?_ | refine j_cond_t ?_ | refine j_cond_f ?_ | refine j_store rfl ?_ | refine j_still_nil ?_)
  refine j_loop (fun m e L => ∃ (k : Nat) (σ : Wd), k ≤ blobs.length ∧ m = blobs.length - k ∧ adoptL σ (blobs.drop k) = R ∧ σ.chg.length = k ∧ e = [(0, .slice A blobs.length c), (3, .pointer (some ⟨b3, 0, none⟩)), (6, .pointer (some ⟨b, 0, none⟩)), (14, .slice A blobs.length c), (15, .int .i64 (blobs.length : Int)), (16, .int .i64 (k : Int))] ∧ L = [worldR b σ, cells b3 0 [.string r.cur, .string r.pend, .bool r.stop]]) blobs.length _ _ ⟨0, Wd.new, by omega, rfl, hR, rfl, rfl, rfl⟩ (by (first | exact sub_nil | (repeat' (first | exact sub_nil | refine sub_cons inferInstance rfl ?_)))) (LE.sub (by (repeat' (first | exact Pick.here | apply Pick.there | apply Picks.cons | exact Picks.nil)))) ?_
  rintro m e L ⟨k, σ, hk, rfl, hRk, hck, rfl, rfl⟩
  repeat (first | refine j_addN (by omega) rfl ?_ | refine j_subN (by omega) rfl ?_ | refine j_mulN (by omega) rfl ?_ | refine j_remN (by omega) rfl ?_ | refine j_addI (by omega) (by omega) rfl ?_ | refine j_subI (by omega) (by omega) rfl ?_ | refine j_op rfl ?_ | refine j_pickF rfl ?_ | refine j_pickT rfl ?_ | refine j_region ?_ | refine j_nil ?_ | refine j_then ?_ | refine j_mono (by assumption) ?_ | (refine j_seq fun K hK => ?_) | refine j_gdo rfl ?_ | refine j_gskip_t rfl ?_ | refine j_gskip_f rfl ?_ | refine j_gskip_u rfl ?_ | refine j_gspec rfl ?_ | refine j_block ?_ | refine j_ret ?_ | refine j_then_ret ?_ | refine j_in_ret ?_ | refine j_in_normal ?_ | refine j_exit ?_ | refine j_then_exit ?_ | refine j_in_exit ?_ | refine j_in_past ?_ | refine j_skip ?_ | refine j_cond_t ?_ | refine j_cond_f ?_ | refine j_store rfl ?_ | refine j_still_nil ?_)
  refine j_cond (fun h => ?_) (fun h => ?_)
  · simp only [Bool.or_eq_true, Bool.and_eq_true, Bool.or_eq_false_iff, Bool.and_eq_false_iff, Bool.not_eq_true', Bool.not_eq_false', decide_eq_true_eq, decide_eq_false_iff_not, ne_eq, Decidable.not_not] at h
    have hx := List.getElem?_eq_getElem (show k < blobs.length by omega)
    have hdk : blobs.drop k = blobs[k] :: blobs.drop (k + 1) := List.drop_eq_getElem_cons (by omega)
    generalize blobs[k] = x at hx hdk
    have hat : At blobs k x := ⟨hx⟩
    rw [hdk] at hRk
    unfold adoptL at hRk
    repeat (first | refine j_addN (by omega) rfl ?_ | refine j_subN (by omega) rfl ?_ | refine j_mulN (by omega) rfl ?_ | refine j_remN (by omega) rfl ?_ | refine j_addI (by omega) (by omega) rfl ?_ | refine j_subI (by omega) (by omega) rfl ?_ | refine j_op rfl ?_ | refine j_pickF rfl ?_ | refine j_pickT rfl ?_ | refine j_region ?_ | refine j_nil ?_ | refine j_then ?_ | refine j_mono (by assumption) ?_ | (refine j_seq fun K hK => ?_) | refine j_gdo rfl ?_ | refine j_gskip_t rfl ?_ | refine j_gskip_f rfl ?_ | refine j_gskip_u rfl ?_ | refine j_gspec rfl ?_ | refine j_block ?_ | refine j_ret ?_ | refine j_then_ret ?_ | refine j_in_ret ?_ | refine j_in_normal ?_ | refine j_exit ?_ | refine j_then_exit ?_ | refine j_in_exit ?_ | refine j_in_past ?_ | refine j_skip ?_ | refine j_cond_t ?_ | refine j_cond_f ?_ | refine j_store rfl ?_ | refine j_still_nil ?_)
    refine j_alloc rfl fun b8 => ?_
    repeat (first | refine j_addN (by omega) rfl ?_ | refine j_subN (by omega) rfl ?_ | refine j_mulN (by omega) rfl ?_ | refine j_remN (by omega) rfl ?_ | refine j_addI (by omega) (by omega) rfl ?_ | refine j_subI (by omega) (by omega) rfl ?_ | refine j_op rfl ?_ | refine j_pickF rfl ?_ | refine j_pickT rfl ?_ | refine j_region ?_ | refine j_nil ?_ | refine j_then ?_ | refine j_mono (by assumption) ?_ | (refine j_seq fun K hK => ?_) | refine j_gdo rfl ?_ | refine j_gskip_t rfl ?_ | refine j_gskip_f rfl ?_ | refine j_gskip_u rfl ?_ | refine j_gspec rfl ?_ | refine j_block ?_ | refine j_ret ?_ | refine j_then_ret ?_ | refine j_in_ret ?_ | refine j_in_normal ?_ | refine j_exit ?_ | refine j_then_exit ?_ | refine j_in_exit ?_ | refine j_in_past ?_ | refine j_skip ?_ | refine j_cond_t ?_ | refine j_cond_f ?_ | refine j_store rfl ?_ | refine j_still_nil ?_)
    refine j_exs (worldR_eq b _) (by (first | exact Pick.here | exact Pick.there Pick.here | exact Pick.there (Pick.there Pick.here) | exact Pick.there (Pick.there (Pick.there Pick.here)) | exact Pick.there (Pick.there (Pick.there (Pick.there Pick.here))) | exact Pick.there (Pick.there (Pick.there (Pick.there (Pick.there Pick.here)))) | exact Pick.there (Pick.there (Pick.there (Pick.there (Pick.there (Pick.there Pick.here))))))) ?_; rintro _ ⟨ro, rp, Ta, Ap, Ac, Am, ct, cp, cc, cm, tr, pl, htr, hpl, hnd, hleft, rfl⟩; simp only [List.cons_append, List.nil_append]
    cases hg : mget σ.objs x.name with
    | some s =>
      have hm : MG σ.objs x.name (some s) := ⟨hg⟩
      rw [hg, if_pos (.inl rfl)] at hRk
      subst hRk
      cases (if_pos (by simp)).symm.trans hq
      refine j_region_still mixed (by kernel_rfl) ?_
      repeat (first | refine j_addN (by omega) rfl ?_ | refine j_subN (by omega) rfl ?_ | refine j_mulN (by omega) rfl ?_ | refine j_remN (by omega) rfl ?_ | refine j_addI (by omega) (by omega) rfl ?_ | refine j_subI (by omega) (by omega) rfl ?_ | refine j_op rfl ?_ | refine j_pickF rfl ?_ | refine j_pickT rfl ?_ | refine j_region ?_ | refine j_nil ?_ | refine j_then ?_ | refine j_mono (by assumption) ?_ | (refine j_seq fun K hK => ?_) | refine j_gdo rfl ?_ | refine j_gskip_t rfl ?_ | refine j_gskip_f rfl ?_ | refine j_gskip_u rfl ?_ | refine j_gspec rfl ?_ | refine j_block ?_ | refine j_ret ?_ | refine j_then_ret ?_ | refine j_in_ret ?_ | refine j_in_normal ?_ | refine j_exit ?_ | refine j_then_exit ?_ | refine j_in_exit ?_ | refine j_in_past ?_ | refine j_skip ?_ | refine j_cond_t ?_ | refine j_cond_f ?_ | refine j_store rfl ?_ | refine j_still_nil ?_)
      (first | refine j_done (.inl rfl) ?_ | refine j_done (.inr rfl) ?_ | refine j_doneM (.inl rfl) ?_ | refine j_doneM (.inr rfl) ?_)
      exact ⟨_, ⟨rfl, rfl⟩, LE.nil⟩
    | none =>
      have hm : MG σ.objs x.name (none : Option ByteArray) := ⟨hg⟩
      rw [hg] at hRk
      refine j_region_still mixed (by kernel_rfl) ?_
      repeat (first | refine j_addN (by omega) rfl ?_ | refine j_subN (by omega) rfl ?_ | refine j_mulN (by omega) rfl ?_ | refine j_remN (by omega) rfl ?_ | refine j_addI (by omega) (by omega) rfl ?_ | refine j_subI (by omega) (by omega) rfl ?_ | refine j_op rfl ?_ | refine j_pickF rfl ?_ | refine j_pickT rfl ?_ | refine j_region ?_ | refine j_nil ?_ | refine j_then ?_ | refine j_mono (by assumption) ?_ | (refine j_seq fun K hK => ?_) | refine j_gdo rfl ?_ | refine j_gskip_t rfl ?_ | refine j_gskip_f rfl ?_ | refine j_gskip_u rfl ?_ | refine j_gspec rfl ?_ | refine j_block ?_ | refine j_ret ?_ | refine j_then_ret ?_ | refine j_in_ret ?_ | refine j_in_normal ?_ | refine j_exit ?_ | refine j_then_exit ?_ | refine j_in_exit ?_ | refine j_in_past ?_ | refine j_skip ?_ | refine j_cond_t ?_ | refine j_cond_f ?_ | refine j_store rfl ?_ | refine j_still_nil ?_)
      refine j_le (LE.keepW σ htr hpl hnd hleft (by (repeat' (first | exact Pick.here | apply Pick.there | apply Picks.cons | exact Picks.nil)))) ?_
      refine j_gcall (labelled_spec x.name) rfl .nil (fun _ _ => trivial) ?_
      rintro _ _ ⟨rfl, rfl⟩
      simp only [List.cons_append, List.nil_append]
      cases hlab : labB x.name with
      | false =>
        rw [hlab, if_pos (.inr rfl)] at hRk
        subst hRk
        cases (if_pos (by simp)).symm.trans hq
        repeat (first | refine j_addN (by omega) rfl ?_ | refine j_subN (by omega) rfl ?_ | refine j_mulN (by omega) rfl ?_ | refine j_remN (by omega) rfl ?_ | refine j_addI (by omega) (by omega) rfl ?_ | refine j_subI (by omega) (by omega) rfl ?_ | refine j_op rfl ?_ | refine j_pickF rfl ?_ | refine j_pickT rfl ?_ | refine j_region ?_ | refine j_nil ?_ | refine j_then ?_ | refine j_mono (by assumption) ?_ | (refine j_seq fun K hK => ?_) | refine j_gdo rfl ?_ | refine j_gskip_t rfl ?_ | refine j_gskip_f rfl ?_ | refine j_gskip_u rfl ?_ | refine j_gspec rfl ?_ | refine j_block ?_ | refine j_ret ?_ | refine j_then_ret ?_ | refine j_in_ret ?_ | refine j_in_normal ?_ | refine j_exit ?_ | refine j_then_exit ?_ | refine j_in_exit ?_ | refine j_in_past ?_ | refine j_skip ?_ | refine j_cond_t ?_ | refine j_cond_f ?_ | refine j_store rfl ?_ | refine j_still_nil ?_)
        (first | refine j_done (.inl rfl) ?_ | refine j_done (.inr rfl) ?_ | refine j_doneM (.inl rfl) ?_ | refine j_doneM (.inr rfl) ?_)
        exact ⟨_, ⟨rfl, rfl⟩, LE.nil⟩
      | true =>
        rw [hlab, if_neg (by simp)] at hRk
        by_cases hbig : 1048576 < x.blob.size
        · have d1 : Dec ((1048576 : Int) < (x.blob.size : Int)) true := dec_t (by omega)
          rw [if_pos hbig] at hRk
          subst hRk
          cases (if_pos (by simp)).symm.trans hq
          repeat (first | refine j_addN (by omega) rfl ?_ | refine j_subN (by omega) rfl ?_ | refine j_mulN (by omega) rfl ?_ | refine j_remN (by omega) rfl ?_ | refine j_addI (by omega) (by omega) rfl ?_ | refine j_subI (by omega) (by omega) rfl ?_ | refine j_op rfl ?_ | refine j_pickF rfl ?_ | refine j_pickT rfl ?_ | refine j_region ?_ | refine j_nil ?_ | refine j_then ?_ | refine j_mono (by assumption) ?_ | (refine j_seq fun K hK => ?_) | refine j_gdo rfl ?_ | refine j_gskip_t rfl ?_ | refine j_gskip_f rfl ?_ | refine j_gskip_u rfl ?_ | refine j_gspec rfl ?_ | refine j_block ?_ | refine j_ret ?_ | refine j_then_ret ?_ | refine j_in_ret ?_ | refine j_in_normal ?_ | refine j_exit ?_ | refine j_then_exit ?_ | refine j_in_exit ?_ | refine j_in_past ?_ | refine j_skip ?_ | refine j_cond_t ?_ | refine j_cond_f ?_ | refine j_store rfl ?_ | refine j_still_nil ?_)
          (first | refine j_done (.inl rfl) ?_ | refine j_done (.inr rfl) ?_ | refine j_doneM (.inl rfl) ?_ | refine j_doneM (.inr rfl) ?_)
          exact ⟨_, ⟨rfl, rfl⟩, LE.nil⟩
        · have d1 : Dec ((1048576 : Int) < (x.blob.size : Int)) false := dec_f (by omega)
          rw [if_neg hbig] at hRk
          have hst := set_spec b σ x.name x.blob (by omega)
          unfold ptr at hst
          repeat (first | refine j_addN (by omega) rfl ?_ | refine j_subN (by omega) rfl ?_ | refine j_mulN (by omega) rfl ?_ | refine j_remN (by omega) rfl ?_ | refine j_addI (by omega) (by omega) rfl ?_ | refine j_subI (by omega) (by omega) rfl ?_ | refine j_op rfl ?_ | refine j_pickF rfl ?_ | refine j_pickT rfl ?_ | refine j_region ?_ | refine j_nil ?_ | refine j_then ?_ | refine j_mono (by assumption) ?_ | (refine j_seq fun K hK => ?_) | refine j_gdo rfl ?_ | refine j_gskip_t rfl ?_ | refine j_gskip_f rfl ?_ | refine j_gskip_u rfl ?_ | refine j_gspec rfl ?_ | refine j_block ?_ | refine j_ret ?_ | refine j_then_ret ?_ | refine j_in_ret ?_ | refine j_in_normal ?_ | refine j_exit ?_ | refine j_then_exit ?_ | refine j_in_exit ?_ | refine j_in_past ?_ | refine j_skip ?_ | refine j_cond_t ?_ | refine j_cond_f ?_ | refine j_store rfl ?_ | refine j_still_nil ?_)
          refine j_call hst rfl (by (repeat' (first | exact Pick.here | apply Pick.there | apply Picks.cons | exact Picks.nil))) (fun _ _ => trivial) ?_
          rintro _ _ ⟨rfl, rfl⟩
          simp only [List.cons_append, List.nil_append]
          repeat (first | refine j_addN (by omega) rfl ?_ | refine j_subN (by omega) rfl ?_ | refine j_mulN (by omega) rfl ?_ | refine j_remN (by omega) rfl ?_ | refine j_addI (by omega) (by omega) rfl ?_ | refine j_subI (by omega) (by omega) rfl ?_ | refine j_op rfl ?_ | refine j_pickF rfl ?_ | refine j_pickT rfl ?_ | refine j_region ?_ | refine j_nil ?_ | refine j_then ?_ | refine j_mono (by assumption) ?_ | (refine j_seq fun K hK => ?_) | refine j_gdo rfl ?_ | refine j_gskip_t rfl ?_ | refine j_gskip_f rfl ?_ | refine j_gskip_u rfl ?_ | refine j_gspec rfl ?_ | refine j_block ?_ | refine j_ret ?_ | refine j_then_ret ?_ | refine j_in_ret ?_ | refine j_in_normal ?_ | refine j_exit ?_ | refine j_then_exit ?_ | refine j_in_exit ?_ | refine j_in_past ?_ | refine j_skip ?_ | refine j_cond_t ?_ | refine j_cond_f ?_ | refine j_store rfl ?_ | refine j_still_nil ?_)
          exact j_back (blobs.length - (k + 1)) _ [worldR b (setW σ x.name x.blob), cells b3 0 [.string r.cur, .string r.pend, .bool r.stop]] ⟨k + 1, setW σ x.name x.blob, by omega, rfl, hRk, by unfold setW; simp; omega, rfl, rfl⟩ (by omega) (by (first | exact sub_nil | (repeat' (first | exact sub_nil | refine sub_cons inferInstance rfl ?_)))) (LE.sub (by (repeat' (first | exact Pick.here | apply Pick.there | apply Picks.cons | exact Picks.nil))))
  · simp only [Bool.or_eq_true, Bool.and_eq_true, Bool.or_eq_false_iff, Bool.and_eq_false_iff, Bool.not_eq_true', Bool.not_eq_false', decide_eq_true_eq, decide_eq_false_iff_not, ne_eq, Decidable.not_not] at h
    have hdk : blobs.drop k = [] := List.drop_of_length_le (by omega)
    rw [hdk] at hRk
    unfold adoptL at hRk
    subst hRk
    rw [if_neg (by simp)] at hq
    repeat (first | refine j_addN (by omega) rfl ?_ | refine j_subN (by omega) rfl ?_ | refine j_mulN (by omega) rfl ?_ | refine j_remN (by omega) rfl ?_ | refine j_addI (by omega) (by omega) rfl ?_ | refine j_subI (by omega) (by omega) rfl ?_ | refine j_op rfl ?_ | refine j_pickF rfl ?_ | refine j_pickT rfl ?_ | refine j_region ?_ | refine j_nil ?_ | refine j_then ?_ | refine j_mono (by assumption) ?_ | (refine j_seq fun K hK => ?_) | refine j_gdo rfl ?_ | refine j_gskip_t rfl ?_ | refine j_gskip_f rfl ?_ | refine j_gskip_u rfl ?_ | refine j_gspec rfl ?_ | refine j_block ?_ | refine j_ret ?_ | refine j_then_ret ?_ | refine j_in_ret ?_ | refine j_in_normal ?_ | refine j_exit ?_ | refine j_then_exit ?_ | refine j_in_exit ?_ | refine j_in_past ?_ | refine j_skip ?_ | refine j_cond_t ?_ | refine j_cond_f ?_ | refine j_store rfl ?_ | refine j_still_nil ?_)
    refine j_loop (fun m e L => ∃ k : Nat, k ≤ 2 ∧ m = 2 - k ∧ (1 ≤ k → tagB r.cur = true) ∧ (2 ≤ k → tagB r.pend = true) ∧ e = [(3, .pointer (some ⟨b3, 0, none⟩)), (6, .pointer (some ⟨b, 0, none⟩)), (52, .agg [.string r.cur, .string r.pend].toArray), (53, .int .i64 (k : Int))] ∧ L = [worldR b σ, cells b3 0 [.string r.cur, .string r.pend, .bool r.stop]]) 2 _ _ ⟨0, by omega, rfl, fun h => by omega, fun h => by omega, rfl, rfl⟩ (by (first | exact sub_nil | (repeat' (first | exact sub_nil | refine sub_cons inferInstance rfl ?_)))) (LE.sub (by (repeat' (first | exact Pick.here | apply Pick.there | apply Picks.cons | exact Picks.nil)))) ?_
    rintro m e L ⟨j, hj, rfl, ht1, ht2, rfl, rfl⟩
    have hj3 : j = 0 ∨ j = 1 ∨ j = 2 := by omega
    rcases hj3 with rfl | rfl | rfl
    · have f0 : Ft (0 < 2) := ⟨by omega⟩
      have dj : Dec (((0 : Nat) : Int) < 2) true := dec_t (by omega)
      by_cases c1 : r.cur = (⟨#[]⟩ : ByteArray)
      · have d1 : Dec (r.cur ≠ (⟨#[]⟩ : ByteArray)) false := dec_f (by simpa using c1)
        repeat (first | refine j_addN (by omega) rfl ?_ | refine j_subN (by omega) rfl ?_ | refine j_mulN (by omega) rfl ?_ | refine j_remN (by omega) rfl ?_ | refine j_addI (by omega) (by omega) rfl ?_ | refine j_subI (by omega) (by omega) rfl ?_ | refine j_op rfl ?_ | refine j_pickF rfl ?_ | refine j_pickT rfl ?_ | refine j_region ?_ | refine j_nil ?_ | refine j_then ?_ | refine j_mono (by assumption) ?_ | (refine j_seq fun K hK => ?_) | refine j_gdo rfl ?_ | refine j_gskip_t rfl ?_ | refine j_gskip_f rfl ?_ | refine j_gskip_u rfl ?_ | refine j_gspec rfl ?_ | refine j_block ?_ | refine j_ret ?_ | refine j_then_ret ?_ | refine j_in_ret ?_ | refine j_in_normal ?_ | refine j_exit ?_ | refine j_then_exit ?_ | refine j_in_exit ?_ | refine j_in_past ?_ | refine j_skip ?_ | refine j_cond_t ?_ | refine j_cond_f ?_ | refine j_store rfl ?_ | refine j_still_nil ?_)
        exact j_back (2 - (0 + 1)) _ [worldR b σ, cells b3 0 [.string r.cur, .string r.pend, .bool r.stop]] ⟨0 + 1, by omega, rfl, fun _ => (by unfold tagB; rw [decide_eq_true c1]; rfl), fun h => absurd h (by omega), rfl, rfl⟩ (by omega) (by (first | exact sub_nil | (repeat' (first | exact sub_nil | refine sub_cons inferInstance rfl ?_)))) (LE.sub (by (repeat' (first | exact Pick.here | apply Pick.there | apply Picks.cons | exact Picks.nil))))
      have d1 : Dec (r.cur ≠ (⟨#[]⟩ : ByteArray)) true := dec_t c1
      by_cases c2 : r.cur.size = 16
      · have d2 : Dec ((r.cur.size : Int) ≠ 16) false := dec_f (by omega)
        repeat (first | refine j_addN (by omega) rfl ?_ | refine j_subN (by omega) rfl ?_ | refine j_mulN (by omega) rfl ?_ | refine j_remN (by omega) rfl ?_ | refine j_addI (by omega) (by omega) rfl ?_ | refine j_subI (by omega) (by omega) rfl ?_ | refine j_op rfl ?_ | refine j_pickF rfl ?_ | refine j_pickT rfl ?_ | refine j_region ?_ | refine j_nil ?_ | refine j_then ?_ | refine j_mono (by assumption) ?_ | (refine j_seq fun K hK => ?_) | refine j_gdo rfl ?_ | refine j_gskip_t rfl ?_ | refine j_gskip_f rfl ?_ | refine j_gskip_u rfl ?_ | refine j_gspec rfl ?_ | refine j_block ?_ | refine j_ret ?_ | refine j_then_ret ?_ | refine j_in_ret ?_ | refine j_in_normal ?_ | refine j_exit ?_ | refine j_then_exit ?_ | refine j_in_exit ?_ | refine j_in_past ?_ | refine j_skip ?_ | refine j_cond_t ?_ | refine j_cond_f ?_ | refine j_store rfl ?_ | refine j_still_nil ?_)
        exact j_back (2 - (0 + 1)) _ [worldR b σ, cells b3 0 [.string r.cur, .string r.pend, .bool r.stop]] ⟨0 + 1, by omega, rfl, fun _ => (by unfold tagB; rw [decide_eq_true c2]; simp), fun h => absurd h (by omega), rfl, rfl⟩ (by omega) (by (first | exact sub_nil | (repeat' (first | exact sub_nil | refine sub_cons inferInstance rfl ?_)))) (LE.sub (by (repeat' (first | exact Pick.here | apply Pick.there | apply Picks.cons | exact Picks.nil))))
      have d2 : Dec ((r.cur.size : Int) ≠ 16) true := dec_t (by omega)
      have hbad : tagB r.cur = false := by unfold tagB; rw [decide_eq_false c1, decide_eq_false c2]; rfl
      rw [if_neg (fun hh => by have := hh.1; rw [hbad] at this; cases this)] at hq
      subst hq
      repeat (first | refine j_addN (by omega) rfl ?_ | refine j_subN (by omega) rfl ?_ | refine j_mulN (by omega) rfl ?_ | refine j_remN (by omega) rfl ?_ | refine j_addI (by omega) (by omega) rfl ?_ | refine j_subI (by omega) (by omega) rfl ?_ | refine j_op rfl ?_ | refine j_pickF rfl ?_ | refine j_pickT rfl ?_ | refine j_region ?_ | refine j_nil ?_ | refine j_then ?_ | refine j_mono (by assumption) ?_ | (refine j_seq fun K hK => ?_) | refine j_gdo rfl ?_ | refine j_gskip_t rfl ?_ | refine j_gskip_f rfl ?_ | refine j_gskip_u rfl ?_ | refine j_gspec rfl ?_ | refine j_block ?_ | refine j_ret ?_ | refine j_then_ret ?_ | refine j_in_ret ?_ | refine j_in_normal ?_ | refine j_exit ?_ | refine j_then_exit ?_ | refine j_in_exit ?_ | refine j_in_past ?_ | refine j_skip ?_ | refine j_cond_t ?_ | refine j_cond_f ?_ | refine j_store rfl ?_ | refine j_still_nil ?_)
      (first | refine j_done (.inl rfl) ?_ | refine j_done (.inr rfl) ?_ | refine j_doneM (.inl rfl) ?_ | refine j_doneM (.inr rfl) ?_)
      exact ⟨_, ⟨rfl, rfl⟩, LE.nil⟩
    · have f0 : Ft (1 < 2) := ⟨by omega⟩
      have dj : Dec (((1 : Nat) : Int) < 2) true := dec_t (by omega)
      by_cases c1 : r.pend = (⟨#[]⟩ : ByteArray)
      · have d1 : Dec (r.pend ≠ (⟨#[]⟩ : ByteArray)) false := dec_f (by simpa using c1)
        repeat (first | refine j_addN (by omega) rfl ?_ | refine j_subN (by omega) rfl ?_ | refine j_mulN (by omega) rfl ?_ | refine j_remN (by omega) rfl ?_ | refine j_addI (by omega) (by omega) rfl ?_ | refine j_subI (by omega) (by omega) rfl ?_ | refine j_op rfl ?_ | refine j_pickF rfl ?_ | refine j_pickT rfl ?_ | refine j_region ?_ | refine j_nil ?_ | refine j_then ?_ | refine j_mono (by assumption) ?_ | (refine j_seq fun K hK => ?_) | refine j_gdo rfl ?_ | refine j_gskip_t rfl ?_ | refine j_gskip_f rfl ?_ | refine j_gskip_u rfl ?_ | refine j_gspec rfl ?_ | refine j_block ?_ | refine j_ret ?_ | refine j_then_ret ?_ | refine j_in_ret ?_ | refine j_in_normal ?_ | refine j_exit ?_ | refine j_then_exit ?_ | refine j_in_exit ?_ | refine j_in_past ?_ | refine j_skip ?_ | refine j_cond_t ?_ | refine j_cond_f ?_ | refine j_store rfl ?_ | refine j_still_nil ?_)
        exact j_back (2 - (1 + 1)) _ [worldR b σ, cells b3 0 [.string r.cur, .string r.pend, .bool r.stop]] ⟨1 + 1, by omega, rfl, fun _ => ht1 (by omega), fun _ => (by unfold tagB; rw [decide_eq_true c1]; rfl), rfl, rfl⟩ (by omega) (by (first | exact sub_nil | (repeat' (first | exact sub_nil | refine sub_cons inferInstance rfl ?_)))) (LE.sub (by (repeat' (first | exact Pick.here | apply Pick.there | apply Picks.cons | exact Picks.nil))))
      have d1 : Dec (r.pend ≠ (⟨#[]⟩ : ByteArray)) true := dec_t c1
      by_cases c2 : r.pend.size = 16
      · have d2 : Dec ((r.pend.size : Int) ≠ 16) false := dec_f (by omega)
        repeat (first | refine j_addN (by omega) rfl ?_ | refine j_subN (by omega) rfl ?_ | refine j_mulN (by omega) rfl ?_ | refine j_remN (by omega) rfl ?_ | refine j_addI (by omega) (by omega) rfl ?_ | refine j_subI (by omega) (by omega) rfl ?_ | refine j_op rfl ?_ | refine j_pickF rfl ?_ | refine j_pickT rfl ?_ | refine j_region ?_ | refine j_nil ?_ | refine j_then ?_ | refine j_mono (by assumption) ?_ | (refine j_seq fun K hK => ?_) | refine j_gdo rfl ?_ | refine j_gskip_t rfl ?_ | refine j_gskip_f rfl ?_ | refine j_gskip_u rfl ?_ | refine j_gspec rfl ?_ | refine j_block ?_ | refine j_ret ?_ | refine j_then_ret ?_ | refine j_in_ret ?_ | refine j_in_normal ?_ | refine j_exit ?_ | refine j_then_exit ?_ | refine j_in_exit ?_ | refine j_in_past ?_ | refine j_skip ?_ | refine j_cond_t ?_ | refine j_cond_f ?_ | refine j_store rfl ?_ | refine j_still_nil ?_)
        exact j_back (2 - (1 + 1)) _ [worldR b σ, cells b3 0 [.string r.cur, .string r.pend, .bool r.stop]] ⟨1 + 1, by omega, rfl, fun _ => ht1 (by omega), fun _ => (by unfold tagB; rw [decide_eq_true c2]; simp), rfl, rfl⟩ (by omega) (by (first | exact sub_nil | (repeat' (first | exact sub_nil | refine sub_cons inferInstance rfl ?_)))) (LE.sub (by (repeat' (first | exact Pick.here | apply Pick.there | apply Picks.cons | exact Picks.nil))))
      have d2 : Dec ((r.pend.size : Int) ≠ 16) true := dec_t (by omega)
      have hbad : tagB r.pend = false := by unfold tagB; rw [decide_eq_false c1, decide_eq_false c2]; rfl
      rw [if_neg (fun hh => by have := hh.2; rw [hbad] at this; cases this)] at hq
      subst hq
      repeat (first | refine j_addN (by omega) rfl ?_ | refine j_subN (by omega) rfl ?_ | refine j_mulN (by omega) rfl ?_ | refine j_remN (by omega) rfl ?_ | refine j_addI (by omega) (by omega) rfl ?_ | refine j_subI (by omega) (by omega) rfl ?_ | refine j_op rfl ?_ | refine j_pickF rfl ?_ | refine j_pickT rfl ?_ | refine j_region ?_ | refine j_nil ?_ | refine j_then ?_ | refine j_mono (by assumption) ?_ | (refine j_seq fun K hK => ?_) | refine j_gdo rfl ?_ | refine j_gskip_t rfl ?_ | refine j_gskip_f rfl ?_ | refine j_gskip_u rfl ?_ | refine j_gspec rfl ?_ | refine j_block ?_ | refine j_ret ?_ | refine j_then_ret ?_ | refine j_in_ret ?_ | refine j_in_normal ?_ | refine j_exit ?_ | refine j_then_exit ?_ | refine j_in_exit ?_ | refine j_in_past ?_ | refine j_skip ?_ | refine j_cond_t ?_ | refine j_cond_f ?_ | refine j_store rfl ?_ | refine j_still_nil ?_)
      (first | refine j_done (.inl rfl) ?_ | refine j_done (.inr rfl) ?_ | refine j_doneM (.inl rfl) ?_ | refine j_doneM (.inr rfl) ?_)
      exact ⟨_, ⟨rfl, rfl⟩, LE.nil⟩
    · have dj : Dec (((2 : Nat) : Int) < 2) false := dec_f (by omega)
      rw [if_pos ⟨ht1 (by omega), ht2 (by omega)⟩] at hq
      subst hq
      repeat (first | refine j_addN (by omega) rfl ?_ | refine j_subN (by omega) rfl ?_ | refine j_mulN (by omega) rfl ?_ | refine j_remN (by omega) rfl ?_ | refine j_addI (by omega) (by omega) rfl ?_ | refine j_subI (by omega) (by omega) rfl ?_ | refine j_op rfl ?_ | refine j_pickF rfl ?_ | refine j_pickT rfl ?_ | refine j_region ?_ | refine j_nil ?_ | refine j_then ?_ | refine j_mono (by assumption) ?_ | (refine j_seq fun K hK => ?_) | refine j_gdo rfl ?_ | refine j_gskip_t rfl ?_ | refine j_gskip_f rfl ?_ | refine j_gskip_u rfl ?_ | refine j_gspec rfl ?_ | refine j_block ?_ | refine j_ret ?_ | refine j_then_ret ?_ | refine j_in_ret ?_ | refine j_in_normal ?_ | refine j_exit ?_ | refine j_then_exit ?_ | refine j_in_exit ?_ | refine j_in_past ?_ | refine j_skip ?_ | refine j_cond_t ?_ | refine j_cond_f ?_ | refine j_store rfl ?_ | refine j_still_nil ?_)
      refine j_exs (worldR_eq b _) (by (first | exact Pick.here | exact Pick.there Pick.here | exact Pick.there (Pick.there Pick.here) | exact Pick.there (Pick.there (Pick.there Pick.here)) | exact Pick.there (Pick.there (Pick.there (Pick.there Pick.here))) | exact Pick.there (Pick.there (Pick.there (Pick.there (Pick.there Pick.here)))) | exact Pick.there (Pick.there (Pick.there (Pick.there (Pick.there (Pick.there Pick.here))))))) ?_; rintro _ ⟨ro, rp, Ta, Ap, Ac, Am, ct, cp, cc, cm, tr, pl, htr, hpl, hnd, hleft, rfl⟩; simp only [List.cons_append, List.nil_append]
      repeat (first | refine j_addN (by omega) rfl ?_ | refine j_subN (by omega) rfl ?_ | refine j_mulN (by omega) rfl ?_ | refine j_remN (by omega) rfl ?_ | refine j_addI (by omega) (by omega) rfl ?_ | refine j_subI (by omega) (by omega) rfl ?_ | refine j_op rfl ?_ | refine j_pickF rfl ?_ | refine j_pickT rfl ?_ | refine j_region ?_ | refine j_nil ?_ | refine j_then ?_ | refine j_mono (by assumption) ?_ | (refine j_seq fun K hK => ?_) | refine j_gdo rfl ?_ | refine j_gskip_t rfl ?_ | refine j_gskip_f rfl ?_ | refine j_gskip_u rfl ?_ | refine j_gspec rfl ?_ | refine j_block ?_ | refine j_ret ?_ | refine j_then_ret ?_ | refine j_in_ret ?_ | refine j_in_normal ?_ | refine j_exit ?_ | refine j_then_exit ?_ | refine j_in_exit ?_ | refine j_in_past ?_ | refine j_skip ?_ | refine j_cond_t ?_ | refine j_cond_f ?_ | refine j_store rfl ?_ | refine j_still_nil ?_)
      (first | refine j_done (.inl rfl) ?_ | refine j_done (.inr rfl) ?_ | refine j_doneM (.inl rfl) ?_ | refine j_doneM (.inr rfl) ?_)
      exact ⟨_, ⟨b, rfl, rfl⟩, LE.foldW htr hpl hnd hleft (by (repeat' (first | exact Pick.here | apply Pick.there | apply Picks.cons | exact Picks.nil)))⟩
end Go.Proofs.Ytbmafpbjkeehaaa.S
