/- exec: Apply and its reference, in one form; works -/
import Derived.Test.YtcoohckdnefacaaDoorXU
namespace Go.Proofs.YtcoohckdnefacaaDoor.S
open Go.RowKit
set_option linter.unusedVariables false
set_option linter.unusedSimpArgs false
set_option maxRecDepth 100000
set_option maxHeartbeats 4000000
set_option synthInstance.maxHeartbeats 400000
set_option synthInstance.maxSize 4000
attribute [local irreducible] wpList Code.wp Exit.then Exit.inBlock stillR bodyPost hR J Back Mid
theorem Spec.weak {P : Program} {f : FuncId} {vs : List Value} {Lp : List Hp} {R : Fr → Prop} {S S' : Value → List Hp → Prop} (h : Spec P f vs Lp R S) (hs : ∀ v L, S v L → ∃ L', S' v L' ∧ LE L L') : Spec P f vs Lp R S' := fun F w hR hsat =>
  (h F w hR hsat).mono fun e w' ⟨v, L, he, hS, hk⟩ => by
    obtain ⟨L', h1, h2⟩ := hs v L hS
    exact ⟨v, L', he, h1, hk.le h2⟩
/-- What an answer tells. -/
def OutIs (r : Option (List RP × List ByteArray)) (rs : List RP) (outs : List ByteArray) (err : Int) : Prop := match r with
  | none => rs = [] ∧ outs = [] ∧ err = 160
  | some (rs', outs') => rs = rs' ∧ outs = outs' ∧ err = 0
theorem OutIs.same {r : Option (List RP × List ByteArray)} {a b : List RP} {c d : List ByteArray} {e f : Int} (h : OutIs r a c e) (g : OutIs r b d f) : a = b ∧ c = d ∧ e = f := by
  cases r with
  | none => obtain ⟨rfl, rfl, rfl⟩ := h; obtain ⟨rfl, rfl, rfl⟩ := g; exact ⟨rfl, rfl, rfl⟩
  | some q => obtain ⟨rfl, rfl, rfl⟩ := h; obtain ⟨rfl, rfl, rfl⟩ := g; exact ⟨rfl, rfl, rfl⟩
def outV (A B : Option Addr) (n m : Nat) (c d : Nat) : Value := .agg [.slice A n c, .slice B m d].toArray
def ApplyU (r : Option (List RP × List ByteArray)) (v : Value) (L : List Hp) : Prop := ∃ A rl B outs err, OutIs r (rl.map Res.pl) outs err ∧ v = .tuple #[outV A B rl.length outs.length rl.length outs.length, .int .i64 err] ∧ L = [own encRes A rl.length rl, allR namR rl, own encS B outs.length outs]
def RefU (r : Option (List RP × List ByteArray)) (v : Value) (L : List Hp) : Prop := ∃ A c rl B d outs err, OutIs r (rl.map Res.pl) outs err ∧ v = .tuple #[outV A B rl.length outs.length c d, .int .i64 err] ∧ L = [own encRes A c rl, allR namR rl, own encS B d outs]
theorem LE.outNil : LE [] [own encRes none 0 [], allR namR [], own encS none 0 []] := by
  refine LE.trans (own_nil encS) ?_
  refine LE.trans (LE.allNil (R := namR)) ?_
  exact own_nil encRes
theorem apply_u (A B C : Option Addr) (c d e1 : Nat) (slots : List Slt) (steps : List Stp) (cs : List ByteArray) (hs : slots.length * 32 ≤ 140737488351232) (hst : steps.length * 136 ≤ 140737488351232) (hn : ∀ s ∈ steps, s.res.names.xs.length * 16 ≤ 140737488355328) (hcs : ∀ s ∈ cs, s.size ≤ 140737488351232) :
    Spec Tryd.prog 11 [planV A B slots.length steps.length c d, .slice C cs.length e1] [] (fun F => RO F encSlt A slots ∧ RO F encStp B steps ∧ RO F encS C cs ∧ StpRO F steps) (ApplyU (applyF slots (steps.map stpP) cs)) := by
  refine (apply_spec A B C c d e1 slots steps cs hs hst hn hcs).weak fun v L h => ?_
  generalize applyF slots (steps.map stpP) cs = r at *
  cases r with
  | none =>
    obtain ⟨rfl, rfl⟩ := h
    exact ⟨_, ⟨none, [], none, [], 160, ⟨rfl, rfl, rfl⟩, rfl, rfl⟩, LE.outNil⟩
  | some q =>
    obtain ⟨A, rl, B, hrl, rfl, rfl⟩ := h
    exact ⟨_, ⟨A, rl, B, q.2, 0, ⟨hrl, rfl, rfl⟩, rfl, rfl⟩, LE.refl _⟩
theorem ref_u (A B C : Option Addr) (c d e1 : Nat) (slots : List Slt) (steps : List Stp) (cs : List ByteArray) (hs : slots.length * 32 ≤ 140737488351232) (hst : steps.length * 136 ≤ 140737488351232) (hn : ∀ s ∈ steps, s.res.names.xs.length * 16 ≤ 140737488355328) (hd : ∀ s ∈ steps, s.eff.data.size ≤ 140737488351232) (hcs : ∀ s ∈ cs, s.size ≤ 140737488351232) :
    Spec Tryd.prog 5 [planV A B slots.length steps.length c d, .slice C cs.length e1] [] (fun F => RO F encSlt A slots ∧ RO F encStp B steps ∧ RO F encS C cs ∧ StpRO F steps) (RefU (applyF slots (steps.map stpP) cs)) := by
  refine (refApply_spec A B C c d e1 slots steps cs hs hst hn hd hcs).weak fun v L h => ?_
  rw [refApply_eq] at h
  generalize applyF slots (steps.map stpP) cs = r at *
  cases r with
  | none =>
    obtain ⟨rfl, rfl⟩ := h
    exact ⟨_, ⟨none, 0, [], none, 0, [], 160, ⟨rfl, rfl, rfl⟩, rfl, rfl⟩, LE.outNil⟩
  | some q =>
    obtain ⟨A, c, rl, B, d, hrl, rfl, rfl⟩ := h
    exact ⟨_, ⟨A, c, rl, B, d, q.2, 0, ⟨hrl, rfl, rfl⟩, rfl, rfl⟩, LE.refl _⟩
def RP0 : RP := ⟨0, bE, 0, [], 0, 0⟩
def stpE (e : Eff) : Stp := ⟨⟨0, bE, 0, ⟨none, 0, []⟩, 0, 0⟩, e⟩
instance decL_stp0 {a b c d i1 i2 i3 i4 i5 i6 : Int} {s s2 : ByteArray} {vs : List Value} {xs : List Stp} [h : DecL encStp vs xs] :
    DecL encStp (.int .i64 a :: .string s :: .int .i64 b :: .slice none 0 0 :: .int .i64 c :: .int .i64 d :: .int .i64 i1 :: .int .i64 i2 :: .int .i64 i3 :: .int .i64 i4 :: .int .i64 i5 :: .string s2 :: .int .i64 i6 :: vs) (⟨⟨a, s, b, ⟨none, 0, []⟩, c, d⟩, ⟨i1, i2, i3, i4, i5, s2, i6⟩⟩ :: xs) := ⟨by rw [List.flatMap_cons, h.out]; rfl⟩
instance encSet_slt {r : Slt} {a b c d : Int} : EncSet encSlt r 0 [.int .i64 a, .int .i64 b, .int .i64 c, .int .i64 d] ⟨a, b, c, d⟩ := ⟨Nat.le_of_ble_eq_true rfl, rfl⟩
instance encSet_stp {r : Stp} {a b c d i1 i2 i3 i4 i5 i6 : Int} {s s2 : ByteArray} : EncSet encStp r 0 [.int .i64 a, .string s, .int .i64 b, .slice none 0 0, .int .i64 c, .int .i64 d, .int .i64 i1, .int .i64 i2, .int .i64 i3, .int .i64 i4, .int .i64 i5, .string s2, .int .i64 i6] ⟨⟨a, s, b, ⟨none, 0, []⟩, c, d⟩, ⟨i1, i2, i3, i4, i5, s2, i6⟩⟩ := ⟨Nat.le_of_ble_eq_true rfl, rfl⟩
instance encSet_stp_data {r : Stp} {s : ByteArray} : EncSet encStp r 1 [.string s] ⟨⟨r.res.code, s, r.res.n, r.res.names, r.res.kind, r.res.size⟩, r.eff⟩ := ⟨Nat.le_of_ble_eq_true rfl, rfl⟩
instance encSet_stp_names {r : Stp} {A : Option Addr} {k : Nat} {l : List ByteArray} : EncSet encStp r 3 [.slice A l.length k] ⟨⟨r.res.code, r.res.data, r.res.n, ⟨A, k, l⟩, r.res.kind, r.res.size⟩, r.eff⟩ := ⟨Nat.le_of_ble_eq_true rfl, rfl⟩
instance encSet_res_data {r : Res} {s : ByteArray} : EncSet encRes r 1 [.string s] ⟨r.code, s, r.n, r.names, r.kind, r.size⟩ := ⟨Nat.le_of_ble_eq_true rfl, rfl⟩
def sRat : ByteArray := ⟨#[114, 97, 116]⟩
def sRats : ByteArray := ⟨#[114, 97, 116, 115]⟩
def sRye : ByteArray := ⟨#[114, 121, 101]⟩
def sYe : ByteArray := ⟨#[121, 101]⟩
def wSteps : List Stp := [stpE ⟨3, 4, 0, 1, 0, sYe, 3⟩, stpE ⟨2, 4, 0, 0, 3, bE, 3⟩]
theorem works_yes : applyF [⟨0, 4, 4, 0⟩] (wSteps.map stpP) [sRat] = some ([RP0, ⟨0, sRye, 0, [], 0, 0⟩], [sRye]) := by rfl
theorem works_no : applyF [⟨0, 4, 4, 0⟩] (wSteps.map stpP) [sRats] = none := by rfl
theorem map_two {α β : Type} {f : α → β} {l : List α} {x y : β} (h : l.map f = [x, y]) : ∃ a b, l = [a, b] ∧ f a = x ∧ f b = y := by
  match l, h with
  | [a, b], h => exact ⟨a, b, rfl, (List.cons.inj h).1, (List.cons.inj (List.cons.inj h).2).1⟩
theorem works_spec : Spec Tryd.prog 4 [] [] (fun _ => True) (fun v L => v = .bool true ∧ L = []) := by
  refine spec_of Tryd.func4 rfl Tryd.ntmps4 fun F hF => ?_
  repeat (first | refine j_addN (by omega) rfl ?_ | refine j_subN (by omega) rfl ?_ | refine j_mulN (by omega) rfl ?_ | refine j_remN (by omega) rfl ?_ | refine j_addI (by omega) (by omega) rfl ?_ | refine j_subI (by omega) (by omega) rfl ?_ | refine j_op rfl ?_ | refine j_pickF rfl ?_ | refine j_pickT rfl ?_ | refine j_region ?_ | refine j_nil ?_ | refine j_then ?_ | refine j_mono (by assumption) ?_ | (refine j_seq fun K hK => ?_) | refine j_gdo rfl ?_ | refine j_gskip_t rfl ?_ | refine j_gskip_f rfl ?_ | refine j_gskip_u rfl ?_ | refine j_gspec rfl ?_ | refine j_block ?_ | refine j_ret ?_ | refine j_then_ret ?_ | refine j_in_ret ?_ | refine j_in_normal ?_ | refine j_exit ?_ | refine j_then_exit ?_ | refine j_in_exit ?_ | refine j_in_past ?_ | refine j_skip ?_ | refine j_cond_t ?_ | refine j_cond_f ?_ | refine j_store rfl ?_ | refine j_still_nil ?_)
  refine j_buildSlice rfl rfl rfl rfl fun b1 => ?_
  repeat (first | refine j_addN (by omega) rfl ?_ | refine j_subN (by omega) rfl ?_ | refine j_mulN (by omega) rfl ?_ | refine j_remN (by omega) rfl ?_ | refine j_addI (by omega) (by omega) rfl ?_ | refine j_subI (by omega) (by omega) rfl ?_ | refine j_op rfl ?_ | refine j_pickF rfl ?_ | refine j_pickT rfl ?_ | refine j_region ?_ | refine j_nil ?_ | refine j_then ?_ | refine j_mono (by assumption) ?_ | (refine j_seq fun K hK => ?_) | refine j_gdo rfl ?_ | refine j_gskip_t rfl ?_ | refine j_gskip_f rfl ?_ | refine j_gskip_u rfl ?_ | refine j_gspec rfl ?_ | refine j_block ?_ | refine j_ret ?_ | refine j_then_ret ?_ | refine j_in_ret ?_ | refine j_in_normal ?_ | refine j_exit ?_ | refine j_then_exit ?_ | refine j_in_exit ?_ | refine j_in_past ?_ | refine j_skip ?_ | refine j_cond_t ?_ | refine j_cond_f ?_ | refine j_store rfl ?_ | refine j_still_nil ?_)
  refine j_buildSlice rfl rfl rfl rfl fun b2 => ?_
  repeat (first | refine j_addN (by omega) rfl ?_ | refine j_subN (by omega) rfl ?_ | refine j_mulN (by omega) rfl ?_ | refine j_remN (by omega) rfl ?_ | refine j_addI (by omega) (by omega) rfl ?_ | refine j_subI (by omega) (by omega) rfl ?_ | refine j_op rfl ?_ | refine j_pickF rfl ?_ | refine j_pickT rfl ?_ | refine j_region ?_ | refine j_nil ?_ | refine j_then ?_ | refine j_mono (by assumption) ?_ | (refine j_seq fun K hK => ?_) | refine j_gdo rfl ?_ | refine j_gskip_t rfl ?_ | refine j_gskip_f rfl ?_ | refine j_gskip_u rfl ?_ | refine j_gspec rfl ?_ | refine j_block ?_ | refine j_ret ?_ | refine j_then_ret ?_ | refine j_in_ret ?_ | refine j_in_normal ?_ | refine j_exit ?_ | refine j_then_exit ?_ | refine j_in_exit ?_ | refine j_in_past ?_ | refine j_skip ?_ | refine j_cond_t ?_ | refine j_cond_f ?_ | refine j_store rfl ?_ | refine j_still_nil ?_)
  refine j_alloc rfl fun b3 => ?_
  repeat (first | refine j_addN (by omega) rfl ?_ | refine j_subN (by omega) rfl ?_ | refine j_mulN (by omega) rfl ?_ | refine j_remN (by omega) rfl ?_ | refine j_addI (by omega) (by omega) rfl ?_ | refine j_subI (by omega) (by omega) rfl ?_ | refine j_op rfl ?_ | refine j_pickF rfl ?_ | refine j_pickT rfl ?_ | refine j_region ?_ | refine j_nil ?_ | refine j_then ?_ | refine j_mono (by assumption) ?_ | (refine j_seq fun K hK => ?_) | refine j_gdo rfl ?_ | refine j_gskip_t rfl ?_ | refine j_gskip_f rfl ?_ | refine j_gskip_u rfl ?_ | refine j_gspec rfl ?_ | refine j_block ?_ | refine j_ret ?_ | refine j_then_ret ?_ | refine j_in_ret ?_ | refine j_in_normal ?_ | refine j_exit ?_ | refine j_then_exit ?_ | refine j_in_exit ?_ | refine j_in_past ?_ | refine j_skip ?_ | refine j_cond_t ?_ | refine j_cond_f ?_ | refine j_store rfl ?_ | refine j_still_nil ?_)
  refine j_buildSlice rfl rfl rfl rfl fun b4 => ?_
  refine j_le (LE.pick (c := cells b1 0 _) (by (first | exact Pick.here | exact Pick.there Pick.here | exact Pick.there (Pick.there Pick.here) | exact Pick.there (Pick.there (Pick.there Pick.here)) | exact Pick.there (Pick.there (Pick.there (Pick.there Pick.here))) | exact Pick.there (Pick.there (Pick.there (Pick.there (Pick.there Pick.here)))) | exact Pick.there (Pick.there (Pick.there (Pick.there (Pick.there (Pick.there Pick.here))))))) (own_of_cells (E := encSlt) (xs := [⟨0, 4, 4, 0⟩]) rfl rfl)) ?_
  refine j_le (LE.pick (c := cells b2 0 _) (by (first | exact Pick.here | exact Pick.there Pick.here | exact Pick.there (Pick.there Pick.here) | exact Pick.there (Pick.there (Pick.there Pick.here)) | exact Pick.there (Pick.there (Pick.there (Pick.there Pick.here))) | exact Pick.there (Pick.there (Pick.there (Pick.there (Pick.there Pick.here)))) | exact Pick.there (Pick.there (Pick.there (Pick.there (Pick.there (Pick.there Pick.here))))))) (own_of_cells (E := encStp) (xs := wSteps) rfl rfl)) ?_
  refine j_le (LE.pick (c := cells b4 0 _) (by (first | exact Pick.here | exact Pick.there Pick.here | exact Pick.there (Pick.there Pick.here) | exact Pick.there (Pick.there (Pick.there Pick.here)) | exact Pick.there (Pick.there (Pick.there (Pick.there Pick.here))) | exact Pick.there (Pick.there (Pick.there (Pick.there (Pick.there Pick.here)))) | exact Pick.there (Pick.there (Pick.there (Pick.there (Pick.there (Pick.there Pick.here))))))) (own_of_cells (E := encS) (xs := [sRat]) rfl rfl)) ?_
  have ha := fun A B C c d e1 => apply_spec A B C c d e1 [⟨0, 4, 4, 0⟩] wSteps [sRat] (by decide) (by decide) (fun s hs => by rcases List.mem_cons.1 hs with rfl | hs; decide; rcases List.mem_cons.1 hs with rfl | hs; decide; cases hs) (fun s hs => by rcases List.mem_cons.1 hs with rfl | hs; decide; cases hs)
  rw [works_yes] at ha
  refine j_call (ha _ _ _ _ _ _) rfl .nil (fun F' hF' => ⟨hF'.ro_own, hF'.ro_own, hF'.ro_own, fun s hs => by rcases List.mem_cons.1 hs with rfl | hs; exact RO.nil; rcases List.mem_cons.1 hs with rfl | hs; exact RO.nil; cases hs⟩) ?_
  rintro _ _ ⟨A, rl, B, hrl, rfl, rfl⟩
  simp only [List.cons_append, List.nil_append]
  obtain ⟨r0, r1, rfl, h0, h1⟩ := map_two hrl
  have hd1 : r1.data = sRye := congrArg RP.data h1
  have d1 : Dec ((0 : Int) ≠ 0) false := dec_f (by simp)
  have d2 : Dec ((([r0, r1].length : Nat) : Int) ≠ 2) false := dec_f (by simp)
  have d3 : Dec ((([sRye].length : Nat) : Int) ≠ 1) false := dec_f (by simp)
  have d4 : Dec (r1.data ≠ ⟨#[114, 121, 101]⟩) false := dec_f (by rw [hd1]; simp [sRye])
  have d5 : Dec (sRye ≠ ⟨#[114, 121, 101]⟩) false := dec_f (by simp [sRye])
  have a1 : At [r0, r1] 1 r1 := ⟨rfl⟩
  have a2 : At [sRye] 0 sRye := ⟨rfl⟩
  have f1 : Ft (1 < [r0, r1].length) := ⟨by simp⟩
  have f2 : Ft (0 < [sRye].length) := ⟨by simp⟩
  repeat (first | refine j_addN (by omega) rfl ?_ | refine j_subN (by omega) rfl ?_ | refine j_mulN (by omega) rfl ?_ | refine j_remN (by omega) rfl ?_ | refine j_addI (by omega) (by omega) rfl ?_ | refine j_subI (by omega) (by omega) rfl ?_ | refine j_op rfl ?_ | refine j_pickF rfl ?_ | refine j_pickT rfl ?_ | refine j_region ?_ | refine j_nil ?_ | refine j_then ?_ | refine j_mono (by assumption) ?_ | (refine j_seq fun K hK => ?_) | refine j_gdo rfl ?_ | refine j_gskip_t rfl ?_ | refine j_gskip_f rfl ?_ | refine j_gskip_u rfl ?_ | refine j_gspec rfl ?_ | refine j_block ?_ | refine j_ret ?_ | refine j_then_ret ?_ | refine j_in_ret ?_ | refine j_in_normal ?_ | refine j_exit ?_ | refine j_then_exit ?_ | refine j_in_exit ?_ | refine j_in_past ?_ | refine j_skip ?_ | refine j_cond_t ?_ | refine j_cond_f ?_ | refine j_store rfl ?_ | refine j_still_nil ?_)
  refine j_alloc rfl fun b5 => ?_
  repeat (first | refine j_addN (by omega) rfl ?_ | refine j_subN (by omega) rfl ?_ | refine j_mulN (by omega) rfl ?_ | refine j_remN (by omega) rfl ?_ | refine j_addI (by omega) (by omega) rfl ?_ | refine j_subI (by omega) (by omega) rfl ?_ | refine j_op rfl ?_ | refine j_pickF rfl ?_ | refine j_pickT rfl ?_ | refine j_region ?_ | refine j_nil ?_ | refine j_then ?_ | refine j_mono (by assumption) ?_ | (refine j_seq fun K hK => ?_) | refine j_gdo rfl ?_ | refine j_gskip_t rfl ?_ | refine j_gskip_f rfl ?_ | refine j_gskip_u rfl ?_ | refine j_gspec rfl ?_ | refine j_block ?_ | refine j_ret ?_ | refine j_then_ret ?_ | refine j_in_ret ?_ | refine j_in_normal ?_ | refine j_exit ?_ | refine j_then_exit ?_ | refine j_in_exit ?_ | refine j_in_past ?_ | refine j_skip ?_ | refine j_cond_t ?_ | refine j_cond_f ?_ | refine j_store rfl ?_ | refine j_still_nil ?_)
  refine j_call (num_spec _) rfl .nil (fun _ _ => trivial) ?_
  rintro _ _ ⟨rfl, rfl⟩
  simp only [List.cons_append, List.nil_append]
  repeat (first | refine j_addN (by omega) rfl ?_ | refine j_subN (by omega) rfl ?_ | refine j_mulN (by omega) rfl ?_ | refine j_remN (by omega) rfl ?_ | refine j_addI (by omega) (by omega) rfl ?_ | refine j_subI (by omega) (by omega) rfl ?_ | refine j_op rfl ?_ | refine j_pickF rfl ?_ | refine j_pickT rfl ?_ | refine j_region ?_ | refine j_nil ?_ | refine j_then ?_ | refine j_mono (by assumption) ?_ | (refine j_seq fun K hK => ?_) | refine j_gdo rfl ?_ | refine j_gskip_t rfl ?_ | refine j_gskip_f rfl ?_ | refine j_gskip_u rfl ?_ | refine j_gspec rfl ?_ | refine j_block ?_ | refine j_ret ?_ | refine j_then_ret ?_ | refine j_in_ret ?_ | refine j_in_normal ?_ | refine j_exit ?_ | refine j_then_exit ?_ | refine j_in_exit ?_ | refine j_in_past ?_ | refine j_skip ?_ | refine j_cond_t ?_ | refine j_cond_f ?_ | refine j_store rfl ?_ | refine j_still_nil ?_)
  refine j_buildSlice rfl rfl rfl rfl fun b6 => ?_
  refine j_le (LE.pick (c := cells b6 0 _) (by (first | exact Pick.here | exact Pick.there Pick.here | exact Pick.there (Pick.there Pick.here) | exact Pick.there (Pick.there (Pick.there Pick.here)) | exact Pick.there (Pick.there (Pick.there (Pick.there Pick.here))) | exact Pick.there (Pick.there (Pick.there (Pick.there (Pick.there Pick.here)))) | exact Pick.there (Pick.there (Pick.there (Pick.there (Pick.there (Pick.there Pick.here))))))) (own_of_cells (E := encS) (xs := [sRats]) rfl rfl)) ?_
  have hb := fun A B C c d e1 => apply_spec A B C c d e1 [⟨0, 4, 4, 0⟩] wSteps [sRats] (by decide) (by decide) (fun s hs => by rcases List.mem_cons.1 hs with rfl | hs; decide; rcases List.mem_cons.1 hs with rfl | hs; decide; cases hs) (fun s hs => by rcases List.mem_cons.1 hs with rfl | hs; decide; cases hs)
  rw [works_no] at hb
  refine j_call (hb _ _ _ _ _ _) rfl .nil (fun F' hF' => ⟨hF'.ro_own, hF'.ro_own, hF'.ro_own, fun s hs => by rcases List.mem_cons.1 hs with rfl | hs; exact RO.nil; rcases List.mem_cons.1 hs with rfl | hs; exact RO.nil; cases hs⟩) ?_
  rintro _ _ ⟨rfl, rfl⟩
  simp only [List.cons_append, List.nil_append]
  have d6 : Dec ((160 : Int) = 160) true := dec_t rfl
  repeat (first | refine j_addN (by omega) rfl ?_ | refine j_subN (by omega) rfl ?_ | refine j_mulN (by omega) rfl ?_ | refine j_remN (by omega) rfl ?_ | refine j_addI (by omega) (by omega) rfl ?_ | refine j_subI (by omega) (by omega) rfl ?_ | refine j_op rfl ?_ | refine j_pickF rfl ?_ | refine j_pickT rfl ?_ | refine j_region ?_ | refine j_nil ?_ | refine j_then ?_ | refine j_mono (by assumption) ?_ | (refine j_seq fun K hK => ?_) | refine j_gdo rfl ?_ | refine j_gskip_t rfl ?_ | refine j_gskip_f rfl ?_ | refine j_gskip_u rfl ?_ | refine j_gspec rfl ?_ | refine j_block ?_ | refine j_ret ?_ | refine j_then_ret ?_ | refine j_in_ret ?_ | refine j_in_normal ?_ | refine j_exit ?_ | refine j_then_exit ?_ | refine j_in_exit ?_ | refine j_in_past ?_ | refine j_skip ?_ | refine j_cond_t ?_ | refine j_cond_f ?_ | refine j_store rfl ?_ | refine j_still_nil ?_)
  refine j_alloc rfl fun b7 => ?_
  repeat (first | refine j_addN (by omega) rfl ?_ | refine j_subN (by omega) rfl ?_ | refine j_mulN (by omega) rfl ?_ | refine j_remN (by omega) rfl ?_ | refine j_addI (by omega) (by omega) rfl ?_ | refine j_subI (by omega) (by omega) rfl ?_ | refine j_op rfl ?_ | refine j_pickF rfl ?_ | refine j_pickT rfl ?_ | refine j_region ?_ | refine j_nil ?_ | refine j_then ?_ | refine j_mono (by assumption) ?_ | (refine j_seq fun K hK => ?_) | refine j_gdo rfl ?_ | refine j_gskip_t rfl ?_ | refine j_gskip_f rfl ?_ | refine j_gskip_u rfl ?_ | refine j_gspec rfl ?_ | refine j_block ?_ | refine j_ret ?_ | refine j_then_ret ?_ | refine j_in_ret ?_ | refine j_in_normal ?_ | refine j_exit ?_ | refine j_then_exit ?_ | refine j_in_exit ?_ | refine j_in_past ?_ | refine j_skip ?_ | refine j_cond_t ?_ | refine j_cond_f ?_ | refine j_store rfl ?_ | refine j_still_nil ?_)
  refine j_call (num_spec _) rfl .nil (fun _ _ => trivial) ?_
  rintro _ _ ⟨rfl, rfl⟩
  simp only [List.cons_append, List.nil_append]
  repeat (first | refine j_addN (by omega) rfl ?_ | refine j_subN (by omega) rfl ?_ | refine j_mulN (by omega) rfl ?_ | refine j_remN (by omega) rfl ?_ | refine j_addI (by omega) (by omega) rfl ?_ | refine j_subI (by omega) (by omega) rfl ?_ | refine j_op rfl ?_ | refine j_pickF rfl ?_ | refine j_pickT rfl ?_ | refine j_region ?_ | refine j_nil ?_ | refine j_then ?_ | refine j_mono (by assumption) ?_ | (refine j_seq fun K hK => ?_) | refine j_gdo rfl ?_ | refine j_gskip_t rfl ?_ | refine j_gskip_f rfl ?_ | refine j_gskip_u rfl ?_ | refine j_gspec rfl ?_ | refine j_block ?_ | refine j_ret ?_ | refine j_then_ret ?_ | refine j_in_ret ?_ | refine j_in_normal ?_ | refine j_exit ?_ | refine j_then_exit ?_ | refine j_in_exit ?_ | refine j_in_past ?_ | refine j_skip ?_ | refine j_cond_t ?_ | refine j_cond_f ?_ | refine j_store rfl ?_ | refine j_still_nil ?_)
  (first | refine j_done (.inl rfl) ?_ | refine j_done (.inr rfl) ?_ | refine j_doneM (.inl rfl) ?_ | refine j_doneM (.inr rfl) ?_)
  exact ⟨_, ⟨rfl, rfl⟩, LE.nil⟩
end Go.Proofs.YtcoohckdnefacaaDoor.S
