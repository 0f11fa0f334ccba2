/- exec: what the other laws share -/
import Derived.Test.YtcoohckdnefacaaEM
namespace Go.Proofs.Ytcoohckdnefacaa.S
open Go.RowKit
set_option linter.unusedVariables false
set_option linter.unusedSimpArgs false
set_option maxRecDepth 100000
set_option maxHeartbeats 4000000
set_option synthInstance.maxHeartbeats 400000
set_option synthInstance.maxSize 4000
attribute [local irreducible] wpList Code.wp Exit.then Exit.inBlock stillR bodyPost hR J Back Mid
/-- Apply of effects alone. -/
theorem apply_effs (A B C : Option Addr) (c d e1 : Nat) (slots : List Slt) (effs : List Eff) (cs : List ByteArray) (hs : slots.length ≤ 100) (hst : effs.length ≤ 1000) (hcs : ∀ s ∈ cs, s.size ≤ 140737488351232) :
    Spec Try.prog 12 [planV A B slots.length effs.length c d, .slice C cs.length e1] [] (fun F => RO F encSlt A slots ∧ RO F encStp B (effs.map stpE) ∧ RO F encS C cs) (ApplyQ (applyF slots ((effs.map stpE).map stpP) cs)) := by
  have hnames : ∀ x ∈ effs.map stpE, x.res.names = ⟨none, 0, []⟩ := fun x hx => by
    obtain ⟨e, _, rfl⟩ := List.mem_map.1 hx
    rfl
  have h := apply_spec A B C c d e1 slots (effs.map stpE) cs (by omega) (by rw [List.length_map]; omega) (fun x hx => by rw [hnames x hx]; decide) hcs
  rw [List.length_map] at h
  exact fun F w hR hs => h F w ⟨hR.1, hR.2.1, hR.2.2, fun x hx => by rw [hnames x hx]; exact RO.nil⟩ hs
theorem RO.front {α : Type} {F : Fr} {E : Enc α} {A : Option Addr} {xs : List α} (r : RO F E A xs) (n : Nat) : RO F E A (xs.take n) := ⟨r.out.take n⟩
theorem effsF_append (file : Int) : ∀ (size : Int) (l m : List Edt), effsF file size (l ++ m) = ((effsF file size l).1 ++ (effsF file (effsF file size l).2 m).1, (effsF file (effsF file size l).2 m).2)
  | size, [], m => rfl
  | size, x :: l, m => by
    have := effsF_append file (effF x file size).size l m
    show ((effF x file size) :: (effsF file (effF x file size).size (l ++ m)).1, (effsF file (effF x file size).size (l ++ m)).2) = _
    rw [this]
    rfl
theorem applyF_of {slots : List Slt} {effs : List Eff} {cs : List ByteArray} {l l' : Live} {outs : List ByteArray} {rs : List RP} (h1 : beginF slots cs = some l) (h2 : (effs.map (fun e => stpP (stpE e))).foldlM runStep (l, []) = some (l', rs)) (h3 : endF l' slots = some outs) :
    applyF slots ((effs.map stpE).map stpP) cs = some (rs, outs) := by
  unfold applyF
  rw [h1, Option.bind_some, List.map_map]
  unfold runF
  rw [show (List.map (stpP ∘ stpE) effs) = effs.map (fun e => stpP (stpE e)) from rfl, h2, Option.bind_some]
  dsimp only
  rw [h3]
  rfl
theorem applyF_end {slots : List Slt} {effs : List Eff} {cs : List ByteArray} {l l' : Live} {rs : List RP} (h1 : beginF slots cs = some l) (h2 : (effs.map (fun e => stpP (stpE e))).foldlM runStep (l, []) = some (l', rs)) (h3 : endF l' slots = none) :
    applyF slots ((effs.map stpE).map stpP) cs = none := by
  unfold applyF
  rw [h1, Option.bind_some, List.map_map]
  unfold runF
  rw [show (List.map (stpP ∘ stpE) effs) = effs.map (fun e => stpP (stpE e)) from rfl, h2, Option.bind_some]
  dsimp only
  rw [h3]
  rfl
theorem applyF_begin {slots : List Slt} {effs : List Eff} {cs : List ByteArray} (h1 : beginF slots cs = none) : applyF slots ((effs.map stpE).map stpP) cs = none := by
  unfold applyF
  rw [h1]
  rfl
/-! ### In two parts -/
abbrev slots1 : List Slt := [⟨0, 1, 1, 0⟩, ⟨0, -1, -1, 0⟩]
theorem begin1 (s : ByteArray) : beginF slots1 [s, bE] = some [(1, s.data.toList)] := by
  have h1 : beginStep [] (⟨0, 1, 1, 0⟩, s) = some [(1, s.data.toList)] := by
    unfold beginStep
    rw [if_neg (fun hh => absurd (show (1 : Int) = -1 from hh.1) (by omega)), if_neg (by rintro (hh | hh); cases hh; exact absurd (show (1 : Int) ≤ -1 from hh) (by omega))]
    rfl
  have h2 : ∀ l, beginStep l (⟨0, -1, -1, 0⟩, bE) = some l := fun l => by unfold beginStep; exact if_pos ⟨rfl, rfl⟩
  show (beginStep [] (⟨0, 1, 1, 0⟩, s) >>= fun q => beginStep q (⟨0, -1, -1, 0⟩, bE) >>= fun q => some q) = _
  rw [h1]
  show (beginStep [(1, s.data.toList)] (⟨0, -1, -1, 0⟩, bE) >>= fun q => some q) = _
  rw [h2]
  rfl
theorem end1 (b : List UInt8) : endF [(1, b)] slots1 = some [bstr b, bE] := by rfl
theorem apply1 (s : ByteArray) (eds : List Edt) (z : Int) (hz : (s.size : Int) = z) : applyF slots1 (((effsF 1 z eds).1.map stpE).map stpP) [s, bE] = some ((effsF 1 z eds).1.map (fun _ => RP0), [bstr (contentF s.data.toList (effsF 1 z eds).1), bE]) := by
  obtain ⟨h1, h2⟩ := run_edits 1 eds [(1, s.data.toList)] s.data.toList z [] rfl (by rw [dsize]; exact hz)
  exact applyF_of (begin1 s) h1 (end1 _)
theorem content_append (b : List UInt8) (l m : List Eff) : contentF b (l ++ m) = contentF (contentF b l) m := by
  unfold contentF
  rw [List.foldl_append]
end Go.Proofs.Ytcoohckdnefacaa.S
