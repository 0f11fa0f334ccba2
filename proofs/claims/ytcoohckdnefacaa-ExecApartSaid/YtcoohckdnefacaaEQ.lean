/- exec: the law of files apart -/
import Derived.Test.YtcoohckdnefacaaEN
namespace Go.Proofs.Ytcoohckdnefacaa.S
open Go.RowKit
set_option linter.unusedVariables false
set_option linter.unusedSimpArgs false
set_option maxRecDepth 100000
set_option maxHeartbeats 4000000
set_option synthInstance.maxHeartbeats 400000
set_option synthInstance.maxSize 4000
attribute [local irreducible] wpList Code.wp Exit.then Exit.inBlock stillR bodyPost hR J Back Mid
structure Bth where
  second : Bool
  ed : Edt
def encBth : Enc Bth := ⟨5, by decide, fun e => [.bool e.second, .bool e.ed.cut, .int .i64 e.ed.at_, .int .i64 e.ed.n, .string e.ed.data], fun _ => rfl, fun x v h => by simp at h; rcases h with rfl | rfl | rfl | rfl | rfl <;> rfl⟩
instance : EncSz encBth 5 := ⟨rfl⟩
instance encAll_bth {e : Bth} : EncAll encBth e [.bool e.second, .bool e.ed.cut, .int .i64 e.ed.at_, .int .i64 e.ed.n, .string e.ed.data] := ⟨rfl⟩
/-- What is gathered: the first's effects, the second's, all; the two sizes. -/
structure Gat where
  f : List Eff
  s : List Eff
  x : List Eff
  n : Int
  m : Int
def gatStep (g : Gat) (b : Bth) : Gat :=
  if b.second then { g with s := g.s ++ [effF b.ed 2 g.m], x := g.x ++ [effF b.ed 2 g.m], m := (effF b.ed 2 g.m).size }
  else { g with f := g.f ++ [effF b.ed 5 g.n], x := g.x ++ [effF b.ed 5 g.n], n := (effF b.ed 5 g.n).size }
def gatF (n m : Int) (l : List Bth) : Gat := l.foldl gatStep ⟨[], [], [], n, m⟩
theorem gatF_snoc (n m : Int) (l : List Bth) (b : Bth) : gatF n m (l ++ [b]) = gatStep (gatF n m l) b := by unfold gatF; rw [List.foldl_append]; rfl
def runE (l : Live) (x : List Eff) : Option (Live × List RP) := (x.map (fun e => stpP (stpE e))).foldlM runStep (l, [])
theorem runE_snoc {l l' l'' : Live} {rs : List RP} {x : List Eff} {e : Eff} (h : runE l x = some (l', rs)) (hk : e.kind = 3 ∨ e.kind = 4) (hs : stepS l' e = some (l'', bE)) : runE l (x ++ [e]) = some (l'', rs ++ [RP0]) := by
  unfold runE at h ⊢
  rw [List.map_append, List.foldlM_append, h]
  show (runStep (l', rs) (stpP (stpE e)) >>= fun q => some q) = _
  rw [runStep_edit (q := (l', rs)) hk hs]
  rfl
theorem content_snoc (b : List UInt8) (x : List Eff) (e : Eff) : contentF b (x ++ [e]) = effStep (contentF b x) e := content_append b x [e]
structure GatOk (a b c : List UInt8) (k : Nat) (g : Gat) : Prop where
  run : ∃ rs, runE [(5, a), (0, c), (2, b)] g.x = some ([(5, contentF a g.f), (0, c), (2, contentF b g.s)], rs)
  run1 : ∃ rs, runE [(5, a)] g.f = some ([(5, contentF a g.f)], rs)
  run2 : ∃ rs, runE [(2, b)] g.s = some ([(2, contentF b g.s)], rs)
  n : ((contentF a g.f).length : Int) = g.n
  m : ((contentF b g.s).length : Int) = g.m
  lf : g.f.length ≤ k
  ls : g.s.length ≤ k
  lx : g.x.length ≤ k
theorem gatOk (a b c : List UInt8) : ∀ l : List Bth, GatOk a b c l.length (gatF a.length b.length l) := fun l => by
  have key : ∀ (l : List Bth) (k : Nat) (g : Gat), GatOk a b c k g → GatOk a b c (k + l.length) (l.foldl gatStep g) := by
    intro l
    induction l with
    | nil => exact fun k g h => h
    | cons x l ih =>
      intro k g h
      rw [show k + (x :: l).length = (k + 1) + l.length by simp; omega]
      refine ih (k + 1) (gatStep g x) ?_
      obtain ⟨⟨rs, r⟩, ⟨rs1, r1⟩, ⟨rs2, r2⟩, hn, hm, hf, hs, hx⟩ := h
      cases hsec : x.second with
      | true =>
        have e1 : gatStep g x = { g with s := g.s ++ [effF x.ed 2 g.m], x := g.x ++ [effF x.ed 2 g.m], m := (effF x.ed 2 g.m).size } := by unfold gatStep; rw [hsec]; rfl
        rw [e1]
        have hk := (effF_ok x.ed 2 g.m).2.2
        have s1 := step_edit (l := [(5, contentF a g.f), (0, c), (2, contentF b g.s)]) (file := 2) (ed := x.ed) (b := contentF b g.s) rfl hm
        have s2 := step_edit (l := [(2, contentF b g.s)]) (file := 2) (ed := x.ed) (b := contentF b g.s) rfl hm
        refine ⟨⟨rs ++ [RP0], ?_⟩, ⟨rs1, r1⟩, ⟨rs2 ++ [RP0], ?_⟩, hn, ?_, by show g.f.length ≤ k + 1; omega, by simp; omega, by simp; omega⟩
        · dsimp only
          rw [content_snoc]
          exact runE_snoc r hk s1.1
        · dsimp only
          rw [content_snoc]
          exact runE_snoc r2 hk s2.1
        · dsimp only
          rw [content_snoc]
          exact s2.2
      | false =>
        have e1 : gatStep g x = { g with f := g.f ++ [effF x.ed 5 g.n], x := g.x ++ [effF x.ed 5 g.n], n := (effF x.ed 5 g.n).size } := by unfold gatStep; rw [hsec]; rfl
        rw [e1]
        have hk := (effF_ok x.ed 5 g.n).2.2
        have s1 := step_edit (l := [(5, contentF a g.f), (0, c), (2, contentF b g.s)]) (file := 5) (ed := x.ed) (b := contentF a g.f) rfl hn
        have s2 := step_edit (l := [(5, contentF a g.f)]) (file := 5) (ed := x.ed) (b := contentF a g.f) rfl hn
        refine ⟨⟨rs ++ [RP0], ?_⟩, ⟨rs1 ++ [RP0], ?_⟩, ⟨rs2, r2⟩, ?_, hm, by simp; omega, by show g.s.length ≤ k + 1; omega, by simp; omega⟩
        · dsimp only
          rw [content_snoc]
          exact runE_snoc r hk s1.1
        · dsimp only
          rw [content_snoc]
          exact runE_snoc r1 hk s2.1
        · dsimp only
          rw [content_snoc]
          exact s2.2
  have := key l 0 ⟨[], [], [], a.length, b.length⟩ ⟨⟨[], rfl⟩, ⟨[], rfl⟩, ⟨[], rfl⟩, rfl, rfl, by simp, by simp, by simp⟩
  rwa [Nat.zero_add] at this
theorem begin_one {l : Live} {s : ByteArray} {f : Int} (hf : 0 ≤ f) (hg : mget l f = none) : beginStep l (⟨0, f, f, 0⟩, s) = some (mput l f s.data.toList) := by
  unfold beginStep
  rw [if_neg (fun hh => absurd (show f = -1 from hh.1) (by omega)), if_neg (by rintro (hh | hh); rw [show mget l (⟨0, f, f, 0⟩ : Slt).was = mget l f from rfl, hg] at hh; cases hh; exact absurd (show f ≤ -1 from hh) (by omega))]
theorem begin3 (a b c : ByteArray) : beginF [⟨0, 5, 5, 0⟩, ⟨0, 0, 0, 0⟩, ⟨0, 2, 2, 0⟩] [a, c, b] = some [(5, a.data.toList), (0, c.data.toList), (2, b.data.toList)] := by
  show (beginStep [] (⟨0, 5, 5, 0⟩, a) >>= fun q => beginStep q (⟨0, 0, 0, 0⟩, c) >>= fun q => beginStep q (⟨0, 2, 2, 0⟩, b) >>= fun q => some q) = _
  rw [begin_one (by omega) rfl]
  show (beginStep [(5, a.data.toList)] (⟨0, 0, 0, 0⟩, c) >>= fun q => beginStep q (⟨0, 2, 2, 0⟩, b) >>= fun q => some q) = _
  rw [begin_one (by omega) rfl]
  show (beginStep [(5, a.data.toList), (0, c.data.toList)] (⟨0, 2, 2, 0⟩, b) >>= fun q => some q) = _
  rw [begin_one (by omega) rfl]
  rfl
theorem begin_f (a : ByteArray) (f : Int) (hf : 0 ≤ f) : beginF [⟨0, f, f, 0⟩] [a] = some [(f, a.data.toList)] := by
  show (beginStep [] (⟨0, f, f, 0⟩, a) >>= fun q => some q) = _
  rw [begin_one hf rfl]
  rfl
theorem end3 (a b c : List UInt8) : endF [(5, a), (0, c), (2, b)] [⟨0, 5, 5, 0⟩, ⟨0, 0, 0, 0⟩, ⟨0, 2, 2, 0⟩] = some [bstr a, bstr c, bstr b] := by rfl
theorem end5 (a : List UInt8) : endF [(5, a)] [⟨0, 5, 5, 0⟩] = some [bstr a] := by rfl
theorem end2 (a : List UInt8) : endF [(2, a)] [⟨0, 2, 2, 0⟩] = some [bstr a] := by rfl
theorem bstr_data' (d : ByteArray) : bstr d.data.toList = d := by
  unfold bstr
  cases d
  simp
theorem execApart_spec (s1 s2 s3 : ByteArray) (A : Option Addr) (c0 : Nat) (eds : List Bth) (hl : eds.length ≤ 9223372036854775807) :
    Spec Try.prog 4 [.string s1, .string s2, .string s3, .slice A eds.length c0] [] (fun F => RO F encBth A eds) (fun v L => v = .bool true) := by
  refine spec_of Try.func4 rfl Try.ntmps4 fun F hF => ?_
  have ro := hF
  repeat (first | refine j_addN (by omega) rfl ?_ | refine j_subN (by omega) rfl ?_ | refine j_mulN (by omega) rfl ?_ | refine j_remN (by omega) rfl ?_ | refine j_addI (by omega) (by omega) rfl ?_ | refine j_subI (by omega) (by omega) rfl ?_ | refine j_op rfl ?_ | refine j_pickF rfl ?_ | refine j_pickT rfl ?_ | refine j_region ?_ | refine j_nil ?_ | refine j_then ?_ | refine j_mono (by assumption) ?_ | (refine j_seq fun K hK => ?_) | refine j_gdo rfl ?_ | refine j_gskip_t rfl ?_ | refine j_gskip_f rfl ?_ | refine j_gskip_u rfl ?_ | refine j_gspec rfl ?_ | refine j_block ?_ | refine j_ret ?_ | refine j_then_ret ?_ | refine j_in_ret ?_ | refine j_in_normal ?_ | refine j_exit ?_ | refine j_then_exit ?_ | refine j_in_exit ?_ | refine j_in_past ?_ | refine j_skip ?_ | refine j_cond_t ?_ | refine j_cond_f ?_ | refine j_store rfl ?_ | refine j_still_nil ?_)
  refine j_call works_spec rfl .nil (fun _ _ => trivial) ?_
  rintro _ _ ⟨rfl, rfl⟩
  simp only [List.cons_append, List.nil_append]
  repeat (first | refine j_addN (by omega) rfl ?_ | refine j_subN (by omega) rfl ?_ | refine j_mulN (by omega) rfl ?_ | refine j_remN (by omega) rfl ?_ | refine j_addI (by omega) (by omega) rfl ?_ | refine j_subI (by omega) (by omega) rfl ?_ | refine j_op rfl ?_ | refine j_pickF rfl ?_ | refine j_pickT rfl ?_ | refine j_region ?_ | refine j_nil ?_ | refine j_then ?_ | refine j_mono (by assumption) ?_ | (refine j_seq fun K hK => ?_) | refine j_gdo rfl ?_ | refine j_gskip_t rfl ?_ | refine j_gskip_f rfl ?_ | refine j_gskip_u rfl ?_ | refine j_gspec rfl ?_ | refine j_block ?_ | refine j_ret ?_ | refine j_then_ret ?_ | refine j_in_ret ?_ | refine j_in_normal ?_ | refine j_exit ?_ | refine j_then_exit ?_ | refine j_in_exit ?_ | refine j_in_past ?_ | refine j_skip ?_ | refine j_cond_t ?_ | refine j_cond_f ?_ | refine j_store rfl ?_ | refine j_still_nil ?_)
  refine j_call (short_spec s1 300) rfl .nil (fun _ _ => trivial) ?_
  rintro _ _ ⟨rfl, rfl⟩
  simp only [List.cons_append, List.nil_append]
  have hs1 := shortF_size s1 300
  generalize shortF s1 300 = a at *
  repeat (first | refine j_addN (by omega) rfl ?_ | refine j_subN (by omega) rfl ?_ | refine j_mulN (by omega) rfl ?_ | refine j_remN (by omega) rfl ?_ | refine j_addI (by omega) (by omega) rfl ?_ | refine j_subI (by omega) (by omega) rfl ?_ | refine j_op rfl ?_ | refine j_pickF rfl ?_ | refine j_pickT rfl ?_ | refine j_region ?_ | refine j_nil ?_ | refine j_then ?_ | refine j_mono (by assumption) ?_ | (refine j_seq fun K hK => ?_) | refine j_gdo rfl ?_ | refine j_gskip_t rfl ?_ | refine j_gskip_f rfl ?_ | refine j_gskip_u rfl ?_ | refine j_gspec rfl ?_ | refine j_block ?_ | refine j_ret ?_ | refine j_then_ret ?_ | refine j_in_ret ?_ | refine j_in_normal ?_ | refine j_exit ?_ | refine j_then_exit ?_ | refine j_in_exit ?_ | refine j_in_past ?_ | refine j_skip ?_ | refine j_cond_t ?_ | refine j_cond_f ?_ | refine j_store rfl ?_ | refine j_still_nil ?_)
  refine j_call (short_spec s2 300) rfl .nil (fun _ _ => trivial) ?_
  rintro _ _ ⟨rfl, rfl⟩
  simp only [List.cons_append, List.nil_append]
  have hs2 := shortF_size s2 300
  generalize shortF s2 300 = b at *
  repeat (first | refine j_addN (by omega) rfl ?_ | refine j_subN (by omega) rfl ?_ | refine j_mulN (by omega) rfl ?_ | refine j_remN (by omega) rfl ?_ | refine j_addI (by omega) (by omega) rfl ?_ | refine j_subI (by omega) (by omega) rfl ?_ | refine j_op rfl ?_ | refine j_pickF rfl ?_ | refine j_pickT rfl ?_ | refine j_region ?_ | refine j_nil ?_ | refine j_then ?_ | refine j_mono (by assumption) ?_ | (refine j_seq fun K hK => ?_) | refine j_gdo rfl ?_ | refine j_gskip_t rfl ?_ | refine j_gskip_f rfl ?_ | refine j_gskip_u rfl ?_ | refine j_gspec rfl ?_ | refine j_block ?_ | refine j_ret ?_ | refine j_then_ret ?_ | refine j_in_ret ?_ | refine j_in_normal ?_ | refine j_exit ?_ | refine j_then_exit ?_ | refine j_in_exit ?_ | refine j_in_past ?_ | refine j_skip ?_ | refine j_cond_t ?_ | refine j_cond_f ?_ | refine j_store rfl ?_ | refine j_still_nil ?_)
  refine j_call (short_spec s3 300) rfl .nil (fun _ _ => trivial) ?_
  rintro _ _ ⟨rfl, rfl⟩
  simp only [List.cons_append, List.nil_append]
  have hs3 := shortF_size s3 300
  generalize shortF s3 300 = c at *
  repeat (first | refine j_addN (by omega) rfl ?_ | refine j_subN (by omega) rfl ?_ | refine j_mulN (by omega) rfl ?_ | refine j_remN (by omega) rfl ?_ | refine j_addI (by omega) (by omega) rfl ?_ | refine j_subI (by omega) (by omega) rfl ?_ | refine j_op rfl ?_ | refine j_pickF rfl ?_ | refine j_pickT rfl ?_ | refine j_region ?_ | refine j_nil ?_ | refine j_then ?_ | refine j_mono (by assumption) ?_ | (refine j_seq fun K hK => ?_) | refine j_gdo rfl ?_ | refine j_gskip_t rfl ?_ | refine j_gskip_f rfl ?_ | refine j_gskip_u rfl ?_ | refine j_gspec rfl ?_ | refine j_block ?_ | refine j_ret ?_ | refine j_then_ret ?_ | refine j_in_ret ?_ | refine j_in_normal ?_ | refine j_exit ?_ | refine j_then_exit ?_ | refine j_in_exit ?_ | refine j_in_past ?_ | refine j_skip ?_ | refine j_cond_t ?_ | refine j_cond_f ?_ | refine j_store rfl ?_ | refine j_still_nil ?_)
  refine j_loop (fun m e L => ∃ k A1 c1 A2 c2 A3 c3, k ≤ eds.length ∧ k ≤ 60 ∧ m = 60 - k ∧ e = [(3, .slice A eds.length c0), (10, .string a), (11, .string b), (12, .string c), (13, .slice A1 (gatF a.size b.size (eds.take k)).f.length c1), (14, .slice A2 (gatF a.size b.size (eds.take k)).s.length c2), (15, .slice A3 (gatF a.size b.size (eds.take k)).x.length c3), (16, .int .i64 (gatF a.size b.size (eds.take k)).n), (17, .int .i64 (gatF a.size b.size (eds.take k)).m), (18, .int .i64 (k : Int))] ∧
    L = [own encEff A1 c1 (gatF a.size b.size (eds.take k)).f, own encEff A2 c2 (gatF a.size b.size (eds.take k)).s, own encEff A3 c3 (gatF a.size b.size (eds.take k)).x]) 60 _ _ ⟨0, none, 0, none, 0, none, 0, by omega, by omega, rfl, rfl, rfl⟩ (by (first | exact sub_nil | (repeat' (first | exact sub_nil | refine sub_cons inferInstance rfl ?_)))) ?_ ?_
  · refine LE.trans (own_nil encEff) ?_
    refine LE.trans (own_nil encEff) ?_
    refine LE.trans (own_nil encEff) ?_
    exact LE.cons (LE.cons (LE.cons LE.nil))
  rintro m e L ⟨k, A1, c1, A2, c2, A3, c3, hk, hk2, rfl, rfl, rfl⟩
  have hgo := gatOk a.data.toList b.data.toList c.data.toList (eds.take k)
  simp only [dsize] at hgo
  have hkl : (eds.take k).length ≤ 60 := by rw [List.length_take]; omega
  have hbf := hgo.lf
  have hbs := hgo.ls
  have hbx := hgo.lx
  by_cases hend : k < eds.length ∧ k < 60
  · have d1 : Dec ((k : Int) < eds.length) true := dec_t (by omega)
    have d2 : Dec ((k : Int) < 60) true := dec_t (by omega)
    have hx := List.getElem?_eq_getElem hend.1
    generalize eds[k] = x at hx
    obtain ⟨second, ed⟩ := x
    have hat : At eds k ⟨second, ed⟩ := ⟨hx⟩
    have htk : gatF a.size b.size (eds.take (k + 1)) = gatStep (gatF a.size b.size (eds.take k)) ⟨second, ed⟩ := by rw [List.take_add_one, hx]; exact gatF_snoc _ _ _ _
    cases second with
    | true =>
      have e1 : gatF a.size b.size (eds.take (k + 1)) = { gatF a.size b.size (eds.take k) with s := (gatF a.size b.size (eds.take k)).s ++ [effF ed 2 (gatF a.size b.size (eds.take k)).m], x := (gatF a.size b.size (eds.take k)).x ++ [effF ed 2 (gatF a.size b.size (eds.take k)).m], m := (effF ed 2 (gatF a.size b.size (eds.take k)).m).size } := htk
      have hef := effect_spec ed 2 (gatF a.size b.size (eds.take k)).m
      unfold edV effV at hef
      generalize effF ed 2 (gatF a.size b.size (eds.take k)).m = ef at hef e1
      repeat (first | refine j_addN (by omega) rfl ?_ | refine j_subN (by omega) rfl ?_ | refine j_mulN (by omega) rfl ?_ | refine j_remN (by omega) rfl ?_ | refine j_addI (by omega) (by omega) rfl ?_ | refine j_subI (by omega) (by omega) rfl ?_ | refine j_op rfl ?_ | refine j_pickF rfl ?_ | refine j_pickT rfl ?_ | refine j_region ?_ | refine j_nil ?_ | refine j_then ?_ | refine j_mono (by assumption) ?_ | (refine j_seq fun K hK => ?_) | refine j_gdo rfl ?_ | refine j_gskip_t rfl ?_ | refine j_gskip_f rfl ?_ | refine j_gskip_u rfl ?_ | refine j_gspec rfl ?_ | refine j_block ?_ | refine j_ret ?_ | refine j_then_ret ?_ | refine j_in_ret ?_ | refine j_in_normal ?_ | refine j_exit ?_ | refine j_then_exit ?_ | refine j_in_exit ?_ | refine j_in_past ?_ | refine j_skip ?_ | refine j_cond_t ?_ | refine j_cond_f ?_ | refine j_store rfl ?_ | refine j_still_nil ?_)
      refine j_call hef rfl .nil (fun _ _ => trivial) ?_
      rintro _ _ ⟨rfl, rfl⟩
      simp only [List.cons_append, List.nil_append]
      repeat (first | refine j_addN (by omega) rfl ?_ | refine j_subN (by omega) rfl ?_ | refine j_mulN (by omega) rfl ?_ | refine j_remN (by omega) rfl ?_ | refine j_addI (by omega) (by omega) rfl ?_ | refine j_subI (by omega) (by omega) rfl ?_ | refine j_op rfl ?_ | refine j_pickF rfl ?_ | refine j_pickT rfl ?_ | refine j_region ?_ | refine j_nil ?_ | refine j_then ?_ | refine j_mono (by assumption) ?_ | (refine j_seq fun K hK => ?_) | refine j_gdo rfl ?_ | refine j_gskip_t rfl ?_ | refine j_gskip_f rfl ?_ | refine j_gskip_u rfl ?_ | refine j_gspec rfl ?_ | refine j_block ?_ | refine j_ret ?_ | refine j_then_ret ?_ | refine j_in_ret ?_ | refine j_in_normal ?_ | refine j_exit ?_ | refine j_then_exit ?_ | refine j_in_exit ?_ | refine j_in_past ?_ | refine j_skip ?_ | refine j_cond_t ?_ | refine j_cond_f ?_ | refine j_store rfl ?_ | refine j_still_nil ?_)
      refine j_alloc rfl fun be => ?_
      repeat (first | refine j_addN (by omega) rfl ?_ | refine j_subN (by omega) rfl ?_ | refine j_mulN (by omega) rfl ?_ | refine j_remN (by omega) rfl ?_ | refine j_addI (by omega) (by omega) rfl ?_ | refine j_subI (by omega) (by omega) rfl ?_ | refine j_op rfl ?_ | refine j_pickF rfl ?_ | refine j_pickT rfl ?_ | refine j_region ?_ | refine j_nil ?_ | refine j_then ?_ | refine j_mono (by assumption) ?_ | (refine j_seq fun K hK => ?_) | refine j_gdo rfl ?_ | refine j_gskip_t rfl ?_ | refine j_gskip_f rfl ?_ | refine j_gskip_u rfl ?_ | refine j_gspec rfl ?_ | refine j_block ?_ | refine j_ret ?_ | refine j_then_ret ?_ | refine j_in_ret ?_ | refine j_in_normal ?_ | refine j_exit ?_ | refine j_then_exit ?_ | refine j_in_exit ?_ | refine j_in_past ?_ | refine j_skip ?_ | refine j_cond_t ?_ | refine j_cond_f ?_ | refine j_store rfl ?_ | refine j_still_nil ?_)
      refine j_buildSlice rfl rfl rfl rfl fun b2 => ?_
      repeat (first | refine j_addN (by omega) rfl ?_ | refine j_subN (by omega) rfl ?_ | refine j_mulN (by omega) rfl ?_ | refine j_remN (by omega) rfl ?_ | refine j_addI (by omega) (by omega) rfl ?_ | refine j_subI (by omega) (by omega) rfl ?_ | refine j_op rfl ?_ | refine j_pickF rfl ?_ | refine j_pickT rfl ?_ | refine j_region ?_ | refine j_nil ?_ | refine j_then ?_ | refine j_mono (by assumption) ?_ | (refine j_seq fun K hK => ?_) | refine j_gdo rfl ?_ | refine j_gskip_t rfl ?_ | refine j_gskip_f rfl ?_ | refine j_gskip_u rfl ?_ | refine j_gspec rfl ?_ | refine j_block ?_ | refine j_ret ?_ | refine j_then_ret ?_ | refine j_in_ret ?_ | refine j_in_normal ?_ | refine j_exit ?_ | refine j_then_exit ?_ | refine j_in_exit ?_ | refine j_in_past ?_ | refine j_skip ?_ | refine j_cond_t ?_ | refine j_cond_f ?_ | refine j_store rfl ?_ | refine j_still_nil ?_)
      refine j_append (by first | rfl | simp) rfl rfl (by (try simp only [List.length_append, List.length_cons, List.length_nil]); omega) ?_
      intro A4 c4
      repeat (first | refine j_addN (by omega) rfl ?_ | refine j_subN (by omega) rfl ?_ | refine j_mulN (by omega) rfl ?_ | refine j_remN (by omega) rfl ?_ | refine j_addI (by omega) (by omega) rfl ?_ | refine j_subI (by omega) (by omega) rfl ?_ | refine j_op rfl ?_ | refine j_pickF rfl ?_ | refine j_pickT rfl ?_ | refine j_region ?_ | refine j_nil ?_ | refine j_then ?_ | refine j_mono (by assumption) ?_ | (refine j_seq fun K hK => ?_) | refine j_gdo rfl ?_ | refine j_gskip_t rfl ?_ | refine j_gskip_f rfl ?_ | refine j_gskip_u rfl ?_ | refine j_gspec rfl ?_ | refine j_block ?_ | refine j_ret ?_ | refine j_then_ret ?_ | refine j_in_ret ?_ | refine j_in_normal ?_ | refine j_exit ?_ | refine j_then_exit ?_ | refine j_in_exit ?_ | refine j_in_past ?_ | refine j_skip ?_ | refine j_cond_t ?_ | refine j_cond_f ?_ | refine j_store rfl ?_ | refine j_still_nil ?_)
      refine j_buildSlice rfl rfl rfl rfl fun b3 => ?_
      repeat (first | refine j_addN (by omega) rfl ?_ | refine j_subN (by omega) rfl ?_ | refine j_mulN (by omega) rfl ?_ | refine j_remN (by omega) rfl ?_ | refine j_addI (by omega) (by omega) rfl ?_ | refine j_subI (by omega) (by omega) rfl ?_ | refine j_op rfl ?_ | refine j_pickF rfl ?_ | refine j_pickT rfl ?_ | refine j_region ?_ | refine j_nil ?_ | refine j_then ?_ | refine j_mono (by assumption) ?_ | (refine j_seq fun K hK => ?_) | refine j_gdo rfl ?_ | refine j_gskip_t rfl ?_ | refine j_gskip_f rfl ?_ | refine j_gskip_u rfl ?_ | refine j_gspec rfl ?_ | refine j_block ?_ | refine j_ret ?_ | refine j_then_ret ?_ | refine j_in_ret ?_ | refine j_in_normal ?_ | refine j_exit ?_ | refine j_then_exit ?_ | refine j_in_exit ?_ | refine j_in_past ?_ | refine j_skip ?_ | refine j_cond_t ?_ | refine j_cond_f ?_ | refine j_store rfl ?_ | refine j_still_nil ?_)
      refine j_append (by first | rfl | simp) rfl rfl (by (try simp only [List.length_append, List.length_cons, List.length_nil]); omega) ?_
      intro A5 c5
      repeat (first | refine j_addN (by omega) rfl ?_ | refine j_subN (by omega) rfl ?_ | refine j_mulN (by omega) rfl ?_ | refine j_remN (by omega) rfl ?_ | refine j_addI (by omega) (by omega) rfl ?_ | refine j_subI (by omega) (by omega) rfl ?_ | refine j_op rfl ?_ | refine j_pickF rfl ?_ | refine j_pickT rfl ?_ | refine j_region ?_ | refine j_nil ?_ | refine j_then ?_ | refine j_mono (by assumption) ?_ | (refine j_seq fun K hK => ?_) | refine j_gdo rfl ?_ | refine j_gskip_t rfl ?_ | refine j_gskip_f rfl ?_ | refine j_gskip_u rfl ?_ | refine j_gspec rfl ?_ | refine j_block ?_ | refine j_ret ?_ | refine j_then_ret ?_ | refine j_in_ret ?_ | refine j_in_normal ?_ | refine j_exit ?_ | refine j_then_exit ?_ | refine j_in_exit ?_ | refine j_in_past ?_ | refine j_skip ?_ | refine j_cond_t ?_ | refine j_cond_f ?_ | refine j_store rfl ?_ | refine j_still_nil ?_)
      have q1 : (gatF a.size b.size (eds.take k)).f = (gatF a.size b.size (eds.take (k + 1))).f := by rw [e1]
      have q2 : (gatF a.size b.size (eds.take k)).s ++ [({ kind := ef.kind, file := ef.file, gone := ef.gone, at_ := ef.at_, n := ef.n, data := ef.data, size := ef.size } : Eff)] = (gatF a.size b.size (eds.take (k + 1))).s := by rw [e1]
      have q3 : (gatF a.size b.size (eds.take k)).x ++ [({ kind := ef.kind, file := ef.file, gone := ef.gone, at_ := ef.at_, n := ef.n, data := ef.data, size := ef.size } : Eff)] = (gatF a.size b.size (eds.take (k + 1))).x := by rw [e1]
      have q4 : (gatF a.size b.size (eds.take k)).n = (gatF a.size b.size (eds.take (k + 1))).n := by rw [e1]
      have q5 : ef.size = (gatF a.size b.size (eds.take (k + 1))).m := by rw [e1]
      rw [q2, q3, q1, q4, q5]
      exact j_back (60 - (k + 1)) _ _ ⟨k + 1, A1, c1, A4, c4, A5, c5, by omega, by omega, rfl, rfl, rfl⟩ (by omega) (by (first | exact sub_nil | (repeat' (first | exact sub_nil | refine sub_cons inferInstance rfl ?_)))) (LE.sub (by (repeat' (first | exact Pick.here | apply Pick.there | apply Picks.cons | exact Picks.nil))))
    | false =>
      have e1 : gatF a.size b.size (eds.take (k + 1)) = { gatF a.size b.size (eds.take k) with f := (gatF a.size b.size (eds.take k)).f ++ [effF ed 5 (gatF a.size b.size (eds.take k)).n], x := (gatF a.size b.size (eds.take k)).x ++ [effF ed 5 (gatF a.size b.size (eds.take k)).n], n := (effF ed 5 (gatF a.size b.size (eds.take k)).n).size } := htk
      have hef := effect_spec ed 5 (gatF a.size b.size (eds.take k)).n
      unfold edV effV at hef
      generalize effF ed 5 (gatF a.size b.size (eds.take k)).n = ef at hef e1
      repeat (first | refine j_addN (by omega) rfl ?_ | refine j_subN (by omega) rfl ?_ | refine j_mulN (by omega) rfl ?_ | refine j_remN (by omega) rfl ?_ | refine j_addI (by omega) (by omega) rfl ?_ | refine j_subI (by omega) (by omega) rfl ?_ | refine j_op rfl ?_ | refine j_pickF rfl ?_ | refine j_pickT rfl ?_ | refine j_region ?_ | refine j_nil ?_ | refine j_then ?_ | refine j_mono (by assumption) ?_ | (refine j_seq fun K hK => ?_) | refine j_gdo rfl ?_ | refine j_gskip_t rfl ?_ | refine j_gskip_f rfl ?_ | refine j_gskip_u rfl ?_ | refine j_gspec rfl ?_ | refine j_block ?_ | refine j_ret ?_ | refine j_then_ret ?_ | refine j_in_ret ?_ | refine j_in_normal ?_ | refine j_exit ?_ | refine j_then_exit ?_ | refine j_in_exit ?_ | refine j_in_past ?_ | refine j_skip ?_ | refine j_cond_t ?_ | refine j_cond_f ?_ | refine j_store rfl ?_ | refine j_still_nil ?_)
      refine j_call hef rfl .nil (fun _ _ => trivial) ?_
      rintro _ _ ⟨rfl, rfl⟩
      simp only [List.cons_append, List.nil_append]
      repeat (first | refine j_addN (by omega) rfl ?_ | refine j_subN (by omega) rfl ?_ | refine j_mulN (by omega) rfl ?_ | refine j_remN (by omega) rfl ?_ | refine j_addI (by omega) (by omega) rfl ?_ | refine j_subI (by omega) (by omega) rfl ?_ | refine j_op rfl ?_ | refine j_pickF rfl ?_ | refine j_pickT rfl ?_ | refine j_region ?_ | refine j_nil ?_ | refine j_then ?_ | refine j_mono (by assumption) ?_ | (refine j_seq fun K hK => ?_) | refine j_gdo rfl ?_ | refine j_gskip_t rfl ?_ | refine j_gskip_f rfl ?_ | refine j_gskip_u rfl ?_ | refine j_gspec rfl ?_ | refine j_block ?_ | refine j_ret ?_ | refine j_then_ret ?_ | refine j_in_ret ?_ | refine j_in_normal ?_ | refine j_exit ?_ | refine j_then_exit ?_ | refine j_in_exit ?_ | refine j_in_past ?_ | refine j_skip ?_ | refine j_cond_t ?_ | refine j_cond_f ?_ | refine j_store rfl ?_ | refine j_still_nil ?_)
      refine j_alloc rfl fun be => ?_
      repeat (first | refine j_addN (by omega) rfl ?_ | refine j_subN (by omega) rfl ?_ | refine j_mulN (by omega) rfl ?_ | refine j_remN (by omega) rfl ?_ | refine j_addI (by omega) (by omega) rfl ?_ | refine j_subI (by omega) (by omega) rfl ?_ | refine j_op rfl ?_ | refine j_pickF rfl ?_ | refine j_pickT rfl ?_ | refine j_region ?_ | refine j_nil ?_ | refine j_then ?_ | refine j_mono (by assumption) ?_ | (refine j_seq fun K hK => ?_) | refine j_gdo rfl ?_ | refine j_gskip_t rfl ?_ | refine j_gskip_f rfl ?_ | refine j_gskip_u rfl ?_ | refine j_gspec rfl ?_ | refine j_block ?_ | refine j_ret ?_ | refine j_then_ret ?_ | refine j_in_ret ?_ | refine j_in_normal ?_ | refine j_exit ?_ | refine j_then_exit ?_ | refine j_in_exit ?_ | refine j_in_past ?_ | refine j_skip ?_ | refine j_cond_t ?_ | refine j_cond_f ?_ | refine j_store rfl ?_ | refine j_still_nil ?_)
      refine j_buildSlice rfl rfl rfl rfl fun b2 => ?_
      repeat (first | refine j_addN (by omega) rfl ?_ | refine j_subN (by omega) rfl ?_ | refine j_mulN (by omega) rfl ?_ | refine j_remN (by omega) rfl ?_ | refine j_addI (by omega) (by omega) rfl ?_ | refine j_subI (by omega) (by omega) rfl ?_ | refine j_op rfl ?_ | refine j_pickF rfl ?_ | refine j_pickT rfl ?_ | refine j_region ?_ | refine j_nil ?_ | refine j_then ?_ | refine j_mono (by assumption) ?_ | (refine j_seq fun K hK => ?_) | refine j_gdo rfl ?_ | refine j_gskip_t rfl ?_ | refine j_gskip_f rfl ?_ | refine j_gskip_u rfl ?_ | refine j_gspec rfl ?_ | refine j_block ?_ | refine j_ret ?_ | refine j_then_ret ?_ | refine j_in_ret ?_ | refine j_in_normal ?_ | refine j_exit ?_ | refine j_then_exit ?_ | refine j_in_exit ?_ | refine j_in_past ?_ | refine j_skip ?_ | refine j_cond_t ?_ | refine j_cond_f ?_ | refine j_store rfl ?_ | refine j_still_nil ?_)
      refine j_append (by first | rfl | simp) rfl rfl (by (try simp only [List.length_append, List.length_cons, List.length_nil]); omega) ?_
      intro A4 c4
      repeat (first | refine j_addN (by omega) rfl ?_ | refine j_subN (by omega) rfl ?_ | refine j_mulN (by omega) rfl ?_ | refine j_remN (by omega) rfl ?_ | refine j_addI (by omega) (by omega) rfl ?_ | refine j_subI (by omega) (by omega) rfl ?_ | refine j_op rfl ?_ | refine j_pickF rfl ?_ | refine j_pickT rfl ?_ | refine j_region ?_ | refine j_nil ?_ | refine j_then ?_ | refine j_mono (by assumption) ?_ | (refine j_seq fun K hK => ?_) | refine j_gdo rfl ?_ | refine j_gskip_t rfl ?_ | refine j_gskip_f rfl ?_ | refine j_gskip_u rfl ?_ | refine j_gspec rfl ?_ | refine j_block ?_ | refine j_ret ?_ | refine j_then_ret ?_ | refine j_in_ret ?_ | refine j_in_normal ?_ | refine j_exit ?_ | refine j_then_exit ?_ | refine j_in_exit ?_ | refine j_in_past ?_ | refine j_skip ?_ | refine j_cond_t ?_ | refine j_cond_f ?_ | refine j_store rfl ?_ | refine j_still_nil ?_)
      refine j_buildSlice rfl rfl rfl rfl fun b3 => ?_
      repeat (first | refine j_addN (by omega) rfl ?_ | refine j_subN (by omega) rfl ?_ | refine j_mulN (by omega) rfl ?_ | refine j_remN (by omega) rfl ?_ | refine j_addI (by omega) (by omega) rfl ?_ | refine j_subI (by omega) (by omega) rfl ?_ | refine j_op rfl ?_ | refine j_pickF rfl ?_ | refine j_pickT rfl ?_ | refine j_region ?_ | refine j_nil ?_ | refine j_then ?_ | refine j_mono (by assumption) ?_ | (refine j_seq fun K hK => ?_) | refine j_gdo rfl ?_ | refine j_gskip_t rfl ?_ | refine j_gskip_f rfl ?_ | refine j_gskip_u rfl ?_ | refine j_gspec rfl ?_ | refine j_block ?_ | refine j_ret ?_ | refine j_then_ret ?_ | refine j_in_ret ?_ | refine j_in_normal ?_ | refine j_exit ?_ | refine j_then_exit ?_ | refine j_in_exit ?_ | refine j_in_past ?_ | refine j_skip ?_ | refine j_cond_t ?_ | refine j_cond_f ?_ | refine j_store rfl ?_ | refine j_still_nil ?_)
      refine j_append (by first | rfl | simp) rfl rfl (by (try simp only [List.length_append, List.length_cons, List.length_nil]); omega) ?_
      intro A5 c5
      repeat (first | refine j_addN (by omega) rfl ?_ | refine j_subN (by omega) rfl ?_ | refine j_mulN (by omega) rfl ?_ | refine j_remN (by omega) rfl ?_ | refine j_addI (by omega) (by omega) rfl ?_ | refine j_subI (by omega) (by omega) rfl ?_ | refine j_op rfl ?_ | refine j_pickF rfl ?_ | refine j_pickT rfl ?_ | refine j_region ?_ | refine j_nil ?_ | refine j_then ?_ | refine j_mono (by assumption) ?_ | (refine j_seq fun K hK => ?_) | refine j_gdo rfl ?_ | refine j_gskip_t rfl ?_ | refine j_gskip_f rfl ?_ | refine j_gskip_u rfl ?_ | refine j_gspec rfl ?_ | refine j_block ?_ | refine j_ret ?_ | refine j_then_ret ?_ | refine j_in_ret ?_ | refine j_in_normal ?_ | refine j_exit ?_ | refine j_then_exit ?_ | refine j_in_exit ?_ | refine j_in_past ?_ | refine j_skip ?_ | refine j_cond_t ?_ | refine j_cond_f ?_ | refine j_store rfl ?_ | refine j_still_nil ?_)
      have q1 : (gatF a.size b.size (eds.take k)).s = (gatF a.size b.size (eds.take (k + 1))).s := by rw [e1]
      have q2 : (gatF a.size b.size (eds.take k)).f ++ [({ kind := ef.kind, file := ef.file, gone := ef.gone, at_ := ef.at_, n := ef.n, data := ef.data, size := ef.size } : Eff)] = (gatF a.size b.size (eds.take (k + 1))).f := by rw [e1]
      have q3 : (gatF a.size b.size (eds.take k)).x ++ [({ kind := ef.kind, file := ef.file, gone := ef.gone, at_ := ef.at_, n := ef.n, data := ef.data, size := ef.size } : Eff)] = (gatF a.size b.size (eds.take (k + 1))).x := by rw [e1]
      have q4 : (gatF a.size b.size (eds.take k)).m = (gatF a.size b.size (eds.take (k + 1))).m := by rw [e1]
      have q5 : ef.size = (gatF a.size b.size (eds.take (k + 1))).n := by rw [e1]
      rw [q2, q3, q1, q4, q5]
      exact j_back (60 - (k + 1)) _ _ ⟨k + 1, A4, c4, A2, c2, A5, c5, by omega, by omega, rfl, rfl, rfl⟩ (by omega) (by (first | exact sub_nil | (repeat' (first | exact sub_nil | refine sub_cons inferInstance rfl ?_)))) (LE.sub (by (repeat' (first | exact Pick.here | apply Pick.there | apply Picks.cons | exact Picks.nil))))
  · rcases (show (Dec ((k : Int) < eds.length) false) ∨ (Dec ((k : Int) < eds.length) true ∧ Dec ((k : Int) < 60) false) from if h0 : k < eds.length then .inr ⟨dec_t (by omega), dec_f (by omega)⟩ else .inl (dec_f (by omega))) with d1 | ⟨d1, d2⟩
    all_goals
      obtain ⟨⟨rs, r⟩, ⟨rs1, r1⟩, ⟨rs2, r2⟩, hn, hm, hf, hs, hx⟩ := hgo
      have hap1 := applyF_of (begin3 a b c) r (end3 _ _ _)
      have hap2 := applyF_of (begin_f a 5 (by omega)) r1 (end5 _)
      have hap3 := applyF_of (begin_f b 2 (by omega)) r2 (end2 _)
      rw [bstr_data' c] at hap1
      clear r r1 r2 hn hm
      generalize gatF a.size b.size (eds.take k) = g at *
      generalize contentF a.data.toList g.f = ca at *
      generalize contentF b.data.toList g.s = cb at *
      repeat (first | refine j_addN (by omega) rfl ?_ | refine j_subN (by omega) rfl ?_ | refine j_mulN (by omega) rfl ?_ | refine j_remN (by omega) rfl ?_ | refine j_addI (by omega) (by omega) rfl ?_ | refine j_subI (by omega) (by omega) rfl ?_ | refine j_op rfl ?_ | refine j_pickF rfl ?_ | refine j_pickT rfl ?_ | refine j_region ?_ | refine j_nil ?_ | refine j_then ?_ | refine j_mono (by assumption) ?_ | (refine j_seq fun K hK => ?_) | refine j_gdo rfl ?_ | refine j_gskip_t rfl ?_ | refine j_gskip_f rfl ?_ | refine j_gskip_u rfl ?_ | refine j_gspec rfl ?_ | refine j_block ?_ | refine j_ret ?_ | refine j_then_ret ?_ | refine j_in_ret ?_ | refine j_in_normal ?_ | refine j_exit ?_ | refine j_then_exit ?_ | refine j_in_exit ?_ | refine j_in_past ?_ | refine j_skip ?_ | refine j_cond_t ?_ | refine j_cond_f ?_ | refine j_store rfl ?_ | refine j_still_nil ?_)
      refine j_buildSlice rfl rfl rfl rfl fun bs => ?_
      refine j_le (LE.pick (c := cells bs 0 _) (by (first | exact Pick.here | exact Pick.there Pick.here | exact Pick.there (Pick.there Pick.here) | exact Pick.there (Pick.there (Pick.there Pick.here)) | exact Pick.there (Pick.there (Pick.there (Pick.there Pick.here))) | exact Pick.there (Pick.there (Pick.there (Pick.there (Pick.there Pick.here)))) | exact Pick.there (Pick.there (Pick.there (Pick.there (Pick.there (Pick.there Pick.here))))))) (own_of_cells (E := encSlt) (xs := [⟨0, 5, 5, 0⟩, ⟨0, 0, 0, 0⟩, ⟨0, 2, 2, 0⟩]) rfl rfl)) ?_
      repeat (first | refine j_addN (by omega) rfl ?_ | refine j_subN (by omega) rfl ?_ | refine j_mulN (by omega) rfl ?_ | refine j_remN (by omega) rfl ?_ | refine j_addI (by omega) (by omega) rfl ?_ | refine j_subI (by omega) (by omega) rfl ?_ | refine j_op rfl ?_ | refine j_pickF rfl ?_ | refine j_pickT rfl ?_ | refine j_region ?_ | refine j_nil ?_ | refine j_then ?_ | refine j_mono (by assumption) ?_ | (refine j_seq fun K hK => ?_) | refine j_gdo rfl ?_ | refine j_gskip_t rfl ?_ | refine j_gskip_f rfl ?_ | refine j_gskip_u rfl ?_ | refine j_gspec rfl ?_ | refine j_block ?_ | refine j_ret ?_ | refine j_then_ret ?_ | refine j_in_ret ?_ | refine j_in_normal ?_ | refine j_exit ?_ | refine j_then_exit ?_ | refine j_in_exit ?_ | refine j_in_past ?_ | refine j_skip ?_ | refine j_cond_t ?_ | refine j_cond_f ?_ | refine j_store rfl ?_ | refine j_still_nil ?_)
      refine j_call (steps_spec A3 c3 g.x (by omega)) rfl .nil (fun F' hF' => hF'.ro_own) ?_
      rintro _ _ ⟨A4, c4, rfl, rfl⟩
      simp only [List.cons_append, List.nil_append]
      repeat (first | refine j_addN (by omega) rfl ?_ | refine j_subN (by omega) rfl ?_ | refine j_mulN (by omega) rfl ?_ | refine j_remN (by omega) rfl ?_ | refine j_addI (by omega) (by omega) rfl ?_ | refine j_subI (by omega) (by omega) rfl ?_ | refine j_op rfl ?_ | refine j_pickF rfl ?_ | refine j_pickT rfl ?_ | refine j_region ?_ | refine j_nil ?_ | refine j_then ?_ | refine j_mono (by assumption) ?_ | (refine j_seq fun K hK => ?_) | refine j_gdo rfl ?_ | refine j_gskip_t rfl ?_ | refine j_gskip_f rfl ?_ | refine j_gskip_u rfl ?_ | refine j_gspec rfl ?_ | refine j_block ?_ | refine j_ret ?_ | refine j_then_ret ?_ | refine j_in_ret ?_ | refine j_in_normal ?_ | refine j_exit ?_ | refine j_then_exit ?_ | refine j_in_exit ?_ | refine j_in_past ?_ | refine j_skip ?_ | refine j_cond_t ?_ | refine j_cond_f ?_ | refine j_store rfl ?_ | refine j_still_nil ?_)
      refine j_buildSlice rfl rfl rfl rfl fun bc => ?_
      refine j_le (LE.pick (c := cells bc 0 _) (by (first | exact Pick.here | exact Pick.there Pick.here | exact Pick.there (Pick.there Pick.here) | exact Pick.there (Pick.there (Pick.there Pick.here)) | exact Pick.there (Pick.there (Pick.there (Pick.there Pick.here))) | exact Pick.there (Pick.there (Pick.there (Pick.there (Pick.there Pick.here)))) | exact Pick.there (Pick.there (Pick.there (Pick.there (Pick.there (Pick.there Pick.here))))))) (own_of_cells (E := encS) (xs := [a, c, b]) rfl rfl)) ?_
      have ha1 := fun (A B C : Option Addr) (d0 d d1 : Nat) => apply_effs A B C d0 d d1 [⟨0, 5, 5, 0⟩, ⟨0, 0, 0, 0⟩, ⟨0, 2, 2, 0⟩] g.x [a, c, b] (by simp) (by omega) (fun y hy => by simp at hy; rcases hy with rfl | rfl | rfl <;> omega)
      rw [hap1] at ha1
      refine j_call (ha1 _ _ _ _ _ _) rfl .nil (fun F' hF' => ⟨hF'.ro_own, hF'.ro_own, hF'.ro_own⟩) ?_
      rintro _ _ ⟨B1, d1, rl1, B2, d2, hrl1, rfl, rfl⟩
      simp only [List.cons_append, List.nil_append]
      repeat (first | refine j_addN (by omega) rfl ?_ | refine j_subN (by omega) rfl ?_ | refine j_mulN (by omega) rfl ?_ | refine j_remN (by omega) rfl ?_ | refine j_addI (by omega) (by omega) rfl ?_ | refine j_subI (by omega) (by omega) rfl ?_ | refine j_op rfl ?_ | refine j_pickF rfl ?_ | refine j_pickT rfl ?_ | refine j_region ?_ | refine j_nil ?_ | refine j_then ?_ | refine j_mono (by assumption) ?_ | (refine j_seq fun K hK => ?_) | refine j_gdo rfl ?_ | refine j_gskip_t rfl ?_ | refine j_gskip_f rfl ?_ | refine j_gskip_u rfl ?_ | refine j_gspec rfl ?_ | refine j_block ?_ | refine j_ret ?_ | refine j_then_ret ?_ | refine j_in_ret ?_ | refine j_in_normal ?_ | refine j_exit ?_ | refine j_then_exit ?_ | refine j_in_exit ?_ | refine j_in_past ?_ | refine j_skip ?_ | refine j_cond_t ?_ | refine j_cond_f ?_ | refine j_store rfl ?_ | refine j_still_nil ?_)
      refine j_alloc rfl fun bo1 => ?_
      repeat (first | refine j_addN (by omega) rfl ?_ | refine j_subN (by omega) rfl ?_ | refine j_mulN (by omega) rfl ?_ | refine j_remN (by omega) rfl ?_ | refine j_addI (by omega) (by omega) rfl ?_ | refine j_subI (by omega) (by omega) rfl ?_ | refine j_op rfl ?_ | refine j_pickF rfl ?_ | refine j_pickT rfl ?_ | refine j_region ?_ | refine j_nil ?_ | refine j_then ?_ | refine j_mono (by assumption) ?_ | (refine j_seq fun K hK => ?_) | refine j_gdo rfl ?_ | refine j_gskip_t rfl ?_ | refine j_gskip_f rfl ?_ | refine j_gskip_u rfl ?_ | refine j_gspec rfl ?_ | refine j_block ?_ | refine j_ret ?_ | refine j_then_ret ?_ | refine j_in_ret ?_ | refine j_in_normal ?_ | refine j_exit ?_ | refine j_then_exit ?_ | refine j_in_exit ?_ | refine j_in_past ?_ | refine j_skip ?_ | refine j_cond_t ?_ | refine j_cond_f ?_ | refine j_store rfl ?_ | refine j_still_nil ?_)
      refine j_buildSlice rfl rfl rfl rfl fun bs2 => ?_
      refine j_le (LE.pick (c := cells bs2 0 _) (by (first | exact Pick.here | exact Pick.there Pick.here | exact Pick.there (Pick.there Pick.here) | exact Pick.there (Pick.there (Pick.there Pick.here)) | exact Pick.there (Pick.there (Pick.there (Pick.there Pick.here))) | exact Pick.there (Pick.there (Pick.there (Pick.there (Pick.there Pick.here)))) | exact Pick.there (Pick.there (Pick.there (Pick.there (Pick.there (Pick.there Pick.here))))))) (own_of_cells (E := encSlt) (xs := [⟨0, 5, 5, 0⟩]) rfl rfl)) ?_
      repeat (first | refine j_addN (by omega) rfl ?_ | refine j_subN (by omega) rfl ?_ | refine j_mulN (by omega) rfl ?_ | refine j_remN (by omega) rfl ?_ | refine j_addI (by omega) (by omega) rfl ?_ | refine j_subI (by omega) (by omega) rfl ?_ | refine j_op rfl ?_ | refine j_pickF rfl ?_ | refine j_pickT rfl ?_ | refine j_region ?_ | refine j_nil ?_ | refine j_then ?_ | refine j_mono (by assumption) ?_ | (refine j_seq fun K hK => ?_) | refine j_gdo rfl ?_ | refine j_gskip_t rfl ?_ | refine j_gskip_f rfl ?_ | refine j_gskip_u rfl ?_ | refine j_gspec rfl ?_ | refine j_block ?_ | refine j_ret ?_ | refine j_then_ret ?_ | refine j_in_ret ?_ | refine j_in_normal ?_ | refine j_exit ?_ | refine j_then_exit ?_ | refine j_in_exit ?_ | refine j_in_past ?_ | refine j_skip ?_ | refine j_cond_t ?_ | refine j_cond_f ?_ | refine j_store rfl ?_ | refine j_still_nil ?_)
      refine j_call (steps_spec A1 c1 g.f (by omega)) rfl .nil (fun F' hF' => hF'.ro_own) ?_
      rintro _ _ ⟨A5, c5, rfl, rfl⟩
      simp only [List.cons_append, List.nil_append]
      repeat (first | refine j_addN (by omega) rfl ?_ | refine j_subN (by omega) rfl ?_ | refine j_mulN (by omega) rfl ?_ | refine j_remN (by omega) rfl ?_ | refine j_addI (by omega) (by omega) rfl ?_ | refine j_subI (by omega) (by omega) rfl ?_ | refine j_op rfl ?_ | refine j_pickF rfl ?_ | refine j_pickT rfl ?_ | refine j_region ?_ | refine j_nil ?_ | refine j_then ?_ | refine j_mono (by assumption) ?_ | (refine j_seq fun K hK => ?_) | refine j_gdo rfl ?_ | refine j_gskip_t rfl ?_ | refine j_gskip_f rfl ?_ | refine j_gskip_u rfl ?_ | refine j_gspec rfl ?_ | refine j_block ?_ | refine j_ret ?_ | refine j_then_ret ?_ | refine j_in_ret ?_ | refine j_in_normal ?_ | refine j_exit ?_ | refine j_then_exit ?_ | refine j_in_exit ?_ | refine j_in_past ?_ | refine j_skip ?_ | refine j_cond_t ?_ | refine j_cond_f ?_ | refine j_store rfl ?_ | refine j_still_nil ?_)
      refine j_buildSlice rfl rfl rfl rfl fun bc2 => ?_
      refine j_le (LE.pick (c := cells bc2 0 _) (by (first | exact Pick.here | exact Pick.there Pick.here | exact Pick.there (Pick.there Pick.here) | exact Pick.there (Pick.there (Pick.there Pick.here)) | exact Pick.there (Pick.there (Pick.there (Pick.there Pick.here))) | exact Pick.there (Pick.there (Pick.there (Pick.there (Pick.there Pick.here)))) | exact Pick.there (Pick.there (Pick.there (Pick.there (Pick.there (Pick.there Pick.here))))))) (own_of_cells (E := encS) (xs := [a]) rfl rfl)) ?_
      have ha2 := fun (A B C : Option Addr) (d0 d d1 : Nat) => apply_effs A B C d0 d d1 [⟨0, 5, 5, 0⟩] g.f [a] (by simp) (by omega) (fun y hy => by simp at hy; subst hy; omega)
      rw [hap2] at ha2
      refine j_call (ha2 _ _ _ _ _ _) rfl .nil (fun F' hF' => ⟨hF'.ro_own, hF'.ro_own, hF'.ro_own⟩) ?_
      rintro _ _ ⟨B3, d3, rl2, B4, d4, hrl2, rfl, rfl⟩
      simp only [List.cons_append, List.nil_append]
      repeat (first | refine j_addN (by omega) rfl ?_ | refine j_subN (by omega) rfl ?_ | refine j_mulN (by omega) rfl ?_ | refine j_remN (by omega) rfl ?_ | refine j_addI (by omega) (by omega) rfl ?_ | refine j_subI (by omega) (by omega) rfl ?_ | refine j_op rfl ?_ | refine j_pickF rfl ?_ | refine j_pickT rfl ?_ | refine j_region ?_ | refine j_nil ?_ | refine j_then ?_ | refine j_mono (by assumption) ?_ | (refine j_seq fun K hK => ?_) | refine j_gdo rfl ?_ | refine j_gskip_t rfl ?_ | refine j_gskip_f rfl ?_ | refine j_gskip_u rfl ?_ | refine j_gspec rfl ?_ | refine j_block ?_ | refine j_ret ?_ | refine j_then_ret ?_ | refine j_in_ret ?_ | refine j_in_normal ?_ | refine j_exit ?_ | refine j_then_exit ?_ | refine j_in_exit ?_ | refine j_in_past ?_ | refine j_skip ?_ | refine j_cond_t ?_ | refine j_cond_f ?_ | refine j_store rfl ?_ | refine j_still_nil ?_)
      refine j_alloc rfl fun bo2 => ?_
      repeat (first | refine j_addN (by omega) rfl ?_ | refine j_subN (by omega) rfl ?_ | refine j_mulN (by omega) rfl ?_ | refine j_remN (by omega) rfl ?_ | refine j_addI (by omega) (by omega) rfl ?_ | refine j_subI (by omega) (by omega) rfl ?_ | refine j_op rfl ?_ | refine j_pickF rfl ?_ | refine j_pickT rfl ?_ | refine j_region ?_ | refine j_nil ?_ | refine j_then ?_ | refine j_mono (by assumption) ?_ | (refine j_seq fun K hK => ?_) | refine j_gdo rfl ?_ | refine j_gskip_t rfl ?_ | refine j_gskip_f rfl ?_ | refine j_gskip_u rfl ?_ | refine j_gspec rfl ?_ | refine j_block ?_ | refine j_ret ?_ | refine j_then_ret ?_ | refine j_in_ret ?_ | refine j_in_normal ?_ | refine j_exit ?_ | refine j_then_exit ?_ | refine j_in_exit ?_ | refine j_in_past ?_ | refine j_skip ?_ | refine j_cond_t ?_ | refine j_cond_f ?_ | refine j_store rfl ?_ | refine j_still_nil ?_)
      refine j_buildSlice rfl rfl rfl rfl fun bs3 => ?_
      refine j_le (LE.pick (c := cells bs3 0 _) (by (first | exact Pick.here | exact Pick.there Pick.here | exact Pick.there (Pick.there Pick.here) | exact Pick.there (Pick.there (Pick.there Pick.here)) | exact Pick.there (Pick.there (Pick.there (Pick.there Pick.here))) | exact Pick.there (Pick.there (Pick.there (Pick.there (Pick.there Pick.here)))) | exact Pick.there (Pick.there (Pick.there (Pick.there (Pick.there (Pick.there Pick.here))))))) (own_of_cells (E := encSlt) (xs := [⟨0, 2, 2, 0⟩]) rfl rfl)) ?_
      repeat (first | refine j_addN (by omega) rfl ?_ | refine j_subN (by omega) rfl ?_ | refine j_mulN (by omega) rfl ?_ | refine j_remN (by omega) rfl ?_ | refine j_addI (by omega) (by omega) rfl ?_ | refine j_subI (by omega) (by omega) rfl ?_ | refine j_op rfl ?_ | refine j_pickF rfl ?_ | refine j_pickT rfl ?_ | refine j_region ?_ | refine j_nil ?_ | refine j_then ?_ | refine j_mono (by assumption) ?_ | (refine j_seq fun K hK => ?_) | refine j_gdo rfl ?_ | refine j_gskip_t rfl ?_ | refine j_gskip_f rfl ?_ | refine j_gskip_u rfl ?_ | refine j_gspec rfl ?_ | refine j_block ?_ | refine j_ret ?_ | refine j_then_ret ?_ | refine j_in_ret ?_ | refine j_in_normal ?_ | refine j_exit ?_ | refine j_then_exit ?_ | refine j_in_exit ?_ | refine j_in_past ?_ | refine j_skip ?_ | refine j_cond_t ?_ | refine j_cond_f ?_ | refine j_store rfl ?_ | refine j_still_nil ?_)
      refine j_call (steps_spec A2 c2 g.s (by omega)) rfl .nil (fun F' hF' => hF'.ro_own) ?_
      rintro _ _ ⟨A6, c6, rfl, rfl⟩
      simp only [List.cons_append, List.nil_append]
      repeat (first | refine j_addN (by omega) rfl ?_ | refine j_subN (by omega) rfl ?_ | refine j_mulN (by omega) rfl ?_ | refine j_remN (by omega) rfl ?_ | refine j_addI (by omega) (by omega) rfl ?_ | refine j_subI (by omega) (by omega) rfl ?_ | refine j_op rfl ?_ | refine j_pickF rfl ?_ | refine j_pickT rfl ?_ | refine j_region ?_ | refine j_nil ?_ | refine j_then ?_ | refine j_mono (by assumption) ?_ | (refine j_seq fun K hK => ?_) | refine j_gdo rfl ?_ | refine j_gskip_t rfl ?_ | refine j_gskip_f rfl ?_ | refine j_gskip_u rfl ?_ | refine j_gspec rfl ?_ | refine j_block ?_ | refine j_ret ?_ | refine j_then_ret ?_ | refine j_in_ret ?_ | refine j_in_normal ?_ | refine j_exit ?_ | refine j_then_exit ?_ | refine j_in_exit ?_ | refine j_in_past ?_ | refine j_skip ?_ | refine j_cond_t ?_ | refine j_cond_f ?_ | refine j_store rfl ?_ | refine j_still_nil ?_)
      refine j_buildSlice rfl rfl rfl rfl fun bc3 => ?_
      refine j_le (LE.pick (c := cells bc3 0 _) (by (first | exact Pick.here | exact Pick.there Pick.here | exact Pick.there (Pick.there Pick.here) | exact Pick.there (Pick.there (Pick.there Pick.here)) | exact Pick.there (Pick.there (Pick.there (Pick.there Pick.here))) | exact Pick.there (Pick.there (Pick.there (Pick.there (Pick.there Pick.here)))) | exact Pick.there (Pick.there (Pick.there (Pick.there (Pick.there (Pick.there Pick.here))))))) (own_of_cells (E := encS) (xs := [b]) rfl rfl)) ?_
      have ha3 := fun (A B C : Option Addr) (d0 d d1 : Nat) => apply_effs A B C d0 d d1 [⟨0, 2, 2, 0⟩] g.s [b] (by simp) (by omega) (fun y hy => by simp at hy; subst hy; omega)
      rw [hap3] at ha3
      refine j_call (ha3 _ _ _ _ _ _) rfl .nil (fun F' hF' => ⟨hF'.ro_own, hF'.ro_own, hF'.ro_own⟩) ?_
      rintro _ _ ⟨B5, d5, rl3, B6, d6, hrl3, rfl, rfl⟩
      simp only [List.cons_append, List.nil_append]
      have g0 : Dec ((0 : Int) ≠ 0) false := dec_f (by simp)
      have g1 : Dec ((([bstr ca, c, bstr cb].length : Nat) : Int) ≠ 3) false := dec_f (by simp)
      have g2 : Dec ((([bstr ca].length : Nat) : Int) ≠ 1) false := dec_f (by simp)
      have g3 : Dec ((([bstr cb].length : Nat) : Int) ≠ 1) false := dec_f (by simp)
      have g4 : Dec (bstr ca = bstr ca) true := dec_t rfl
      have g5 : Dec (bstr cb = bstr cb) true := dec_t rfl
      have g6 : Dec (c = c) true := dec_t rfl
      have a1 : At [bstr ca, c, bstr cb] 0 (bstr ca) := ⟨rfl⟩
      have a2 : At [bstr ca, c, bstr cb] 1 c := ⟨rfl⟩
      have a3 : At [bstr ca, c, bstr cb] 2 (bstr cb) := ⟨rfl⟩
      have a4 : At [bstr ca] 0 (bstr ca) := ⟨rfl⟩
      have a5 : At [bstr cb] 0 (bstr cb) := ⟨rfl⟩
      have f1 : Ft (0 < [bstr ca, c, bstr cb].length) := ⟨by simp⟩
      have f2 : Ft (1 < [bstr ca, c, bstr cb].length) := ⟨by simp⟩
      have f3 : Ft (2 < [bstr ca, c, bstr cb].length) := ⟨by simp⟩
      have f4 : Ft (0 < [bstr ca].length) := ⟨by simp⟩
      have f5 : Ft (0 < [bstr cb].length) := ⟨by simp⟩
      repeat (first | refine j_addN (by omega) rfl ?_ | refine j_subN (by omega) rfl ?_ | refine j_mulN (by omega) rfl ?_ | refine j_remN (by omega) rfl ?_ | refine j_addI (by omega) (by omega) rfl ?_ | refine j_subI (by omega) (by omega) rfl ?_ | refine j_op rfl ?_ | refine j_pickF rfl ?_ | refine j_pickT rfl ?_ | refine j_region ?_ | refine j_nil ?_ | refine j_then ?_ | refine j_mono (by assumption) ?_ | (refine j_seq fun K hK => ?_) | refine j_gdo rfl ?_ | refine j_gskip_t rfl ?_ | refine j_gskip_f rfl ?_ | refine j_gskip_u rfl ?_ | refine j_gspec rfl ?_ | refine j_block ?_ | refine j_ret ?_ | refine j_then_ret ?_ | refine j_in_ret ?_ | refine j_in_normal ?_ | refine j_exit ?_ | refine j_then_exit ?_ | refine j_in_exit ?_ | refine j_in_past ?_ | refine j_skip ?_ | refine j_cond_t ?_ | refine j_cond_f ?_ | refine j_store rfl ?_ | refine j_still_nil ?_)
      refine j_alloc rfl fun bo3 => ?_
      repeat (first | refine j_addN (by omega) rfl ?_ | refine j_subN (by omega) rfl ?_ | refine j_mulN (by omega) rfl ?_ | refine j_remN (by omega) rfl ?_ | refine j_addI (by omega) (by omega) rfl ?_ | refine j_subI (by omega) (by omega) rfl ?_ | refine j_op rfl ?_ | refine j_pickF rfl ?_ | refine j_pickT rfl ?_ | refine j_region ?_ | refine j_nil ?_ | refine j_then ?_ | refine j_mono (by assumption) ?_ | (refine j_seq fun K hK => ?_) | refine j_gdo rfl ?_ | refine j_gskip_t rfl ?_ | refine j_gskip_f rfl ?_ | refine j_gskip_u rfl ?_ | refine j_gspec rfl ?_ | refine j_block ?_ | refine j_ret ?_ | refine j_then_ret ?_ | refine j_in_ret ?_ | refine j_in_normal ?_ | refine j_exit ?_ | refine j_then_exit ?_ | refine j_in_exit ?_ | refine j_in_past ?_ | refine j_skip ?_ | refine j_cond_t ?_ | refine j_cond_f ?_ | refine j_store rfl ?_ | refine j_still_nil ?_)
      refine j_call (num_spec _) rfl .nil (fun _ _ => trivial) ?_
      rintro _ _ ⟨rfl, rfl⟩
      simp only [List.cons_append, List.nil_append]
      repeat (first | refine j_addN (by omega) rfl ?_ | refine j_subN (by omega) rfl ?_ | refine j_mulN (by omega) rfl ?_ | refine j_remN (by omega) rfl ?_ | refine j_addI (by omega) (by omega) rfl ?_ | refine j_subI (by omega) (by omega) rfl ?_ | refine j_op rfl ?_ | refine j_pickF rfl ?_ | refine j_pickT rfl ?_ | refine j_region ?_ | refine j_nil ?_ | refine j_then ?_ | refine j_mono (by assumption) ?_ | (refine j_seq fun K hK => ?_) | refine j_gdo rfl ?_ | refine j_gskip_t rfl ?_ | refine j_gskip_f rfl ?_ | refine j_gskip_u rfl ?_ | refine j_gspec rfl ?_ | refine j_block ?_ | refine j_ret ?_ | refine j_then_ret ?_ | refine j_in_ret ?_ | refine j_in_normal ?_ | refine j_exit ?_ | refine j_then_exit ?_ | refine j_in_exit ?_ | refine j_in_past ?_ | refine j_skip ?_ | refine j_cond_t ?_ | refine j_cond_f ?_ | refine j_store rfl ?_ | refine j_still_nil ?_)
      refine j_gcall (num_spec _) rfl .nil (fun _ _ => trivial) ?_
      rintro _ _ ⟨rfl, rfl⟩
      simp only [List.cons_append, List.nil_append]
      repeat (first | refine j_addN (by omega) rfl ?_ | refine j_subN (by omega) rfl ?_ | refine j_mulN (by omega) rfl ?_ | refine j_remN (by omega) rfl ?_ | refine j_addI (by omega) (by omega) rfl ?_ | refine j_subI (by omega) (by omega) rfl ?_ | refine j_op rfl ?_ | refine j_pickF rfl ?_ | refine j_pickT rfl ?_ | refine j_region ?_ | refine j_nil ?_ | refine j_then ?_ | refine j_mono (by assumption) ?_ | (refine j_seq fun K hK => ?_) | refine j_gdo rfl ?_ | refine j_gskip_t rfl ?_ | refine j_gskip_f rfl ?_ | refine j_gskip_u rfl ?_ | refine j_gspec rfl ?_ | refine j_block ?_ | refine j_ret ?_ | refine j_then_ret ?_ | refine j_in_ret ?_ | refine j_in_normal ?_ | refine j_exit ?_ | refine j_then_exit ?_ | refine j_in_exit ?_ | refine j_in_past ?_ | refine j_skip ?_ | refine j_cond_t ?_ | refine j_cond_f ?_ | refine j_store rfl ?_ | refine j_still_nil ?_)
      refine j_gcall (num_spec _) rfl .nil (fun _ _ => trivial) ?_
      rintro _ _ ⟨rfl, rfl⟩
      simp only [List.cons_append, List.nil_append]
      repeat (first | refine j_addN (by omega) rfl ?_ | refine j_subN (by omega) rfl ?_ | refine j_mulN (by omega) rfl ?_ | refine j_remN (by omega) rfl ?_ | refine j_addI (by omega) (by omega) rfl ?_ | refine j_subI (by omega) (by omega) rfl ?_ | refine j_op rfl ?_ | refine j_pickF rfl ?_ | refine j_pickT rfl ?_ | refine j_region ?_ | refine j_nil ?_ | refine j_then ?_ | refine j_mono (by assumption) ?_ | (refine j_seq fun K hK => ?_) | refine j_gdo rfl ?_ | refine j_gskip_t rfl ?_ | refine j_gskip_f rfl ?_ | refine j_gskip_u rfl ?_ | refine j_gspec rfl ?_ | refine j_block ?_ | refine j_ret ?_ | refine j_then_ret ?_ | refine j_in_ret ?_ | refine j_in_normal ?_ | refine j_exit ?_ | refine j_then_exit ?_ | refine j_in_exit ?_ | refine j_in_past ?_ | refine j_skip ?_ | refine j_cond_t ?_ | refine j_cond_f ?_ | refine j_store rfl ?_ | refine j_still_nil ?_)
      refine j_region_still mixed (by kernel_rfl) ?_
      repeat (first | refine j_addN (by omega) rfl ?_ | refine j_subN (by omega) rfl ?_ | refine j_mulN (by omega) rfl ?_ | refine j_remN (by omega) rfl ?_ | refine j_addI (by omega) (by omega) rfl ?_ | refine j_subI (by omega) (by omega) rfl ?_ | refine j_op rfl ?_ | refine j_pickF rfl ?_ | refine j_pickT rfl ?_ | refine j_region ?_ | refine j_nil ?_ | refine j_then ?_ | refine j_mono (by assumption) ?_ | (refine j_seq fun K hK => ?_) | refine j_gdo rfl ?_ | refine j_gskip_t rfl ?_ | refine j_gskip_f rfl ?_ | refine j_gskip_u rfl ?_ | refine j_gspec rfl ?_ | refine j_block ?_ | refine j_ret ?_ | refine j_then_ret ?_ | refine j_in_ret ?_ | refine j_in_normal ?_ | refine j_exit ?_ | refine j_then_exit ?_ | refine j_in_exit ?_ | refine j_in_past ?_ | refine j_skip ?_ | refine j_cond_t ?_ | refine j_cond_f ?_ | refine j_store rfl ?_ | refine j_still_nil ?_)
      (first | refine j_done (.inl rfl) ?_ | refine j_done (.inr rfl) ?_ | refine j_doneM (.inl rfl) ?_ | refine j_doneM (.inr rfl) ?_)
      exact ⟨_, rfl, LE.nil⟩
theorem opn_bth : Opn Try.prog encBth 56 (fun _ _ => True) :=
  opn_iso (E := encPair encB encEdt) (opn_struct Try.underlying56 (by kernel_rfl) (opnL_cons rfl (opn_bool Try.underlying4 (by kernel_rfl)) (opnL_one rfl opn_edt)))
    (fun v => ⟨v.1, v.2⟩) rfl (fun v => rfl) (fun _ _ _ => trivial)
theorem open_execApart_0 : Opn Try.prog encS 9 StrG := opn_string Try.underlying9 (by kernel_rfl)
theorem open_execApart_1 : Opn Try.prog encS 9 StrG := opn_string Try.underlying9 (by kernel_rfl)
theorem open_execApart_2 : Opn Try.prog encS 9 StrG := opn_string Try.underlying9 (by kernel_rfl)
theorem open_execApart_3 : Opn Try.prog (encSl Bth) 52 (SlG encBth 48 fun _ _ => True) := opn_slice Try.underlying52 (by kernel_rfl) (by kernel_rfl) opn_bth
theorem execApart_calls (x0 x1 x2 : ByteArray) (x3 : Sl Bth) (w : World) (g0 : StrG w x0) (g1 : StrG w x1) (g2 : StrG w x2) (g3 : SlG encBth 48 (fun _ _ => True) w x3) :
    Calls Try.prog 4 #[.string x0, .string x1, .string x2, .slice x3.A x3.xs.length x3.c] w fun e w' => e = .returned (.bool true) ∧ Below w.heap.size w w' :=
  (execApart_spec x0 x1 x2 x3.A x3.c x3.xs g3.2.2.2.1).law w g3.1.ro
end Go.Proofs.Ytcoohckdnefacaa.S
