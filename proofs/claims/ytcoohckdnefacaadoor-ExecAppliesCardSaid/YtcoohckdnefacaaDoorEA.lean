/- exec: how its data lie; what it does, plainly -/
import Derived.Test.YtcoohckdnefacaaDoorST
import Derived.Test.YtcoohckdnefacaaDoorS14
namespace Go.Proofs.YtcoohckdnefacaaDoor.S
open Go.RowKit
set_option linter.unusedVariables false
set_option linter.unusedSimpArgs false
set_option maxRecDepth 100000
structure Eff where
  kind : Int
  file : Int
  gone : Int
  at_ : Int
  n : Int
  data : ByteArray
  size : Int
structure Slt where
  object : Int
  was : Int
  file : Int
  bucket : Int
structure Res where
  code : Int
  data : ByteArray
  n : Int
  names : Sl ByteArray
  kind : Int
  size : Int
structure Stp where
  res : Res
  eff : Eff
def Eff.cells (e : Eff) : List Value := [.int .i64 e.kind, .int .i64 e.file, .int .i64 e.gone, .int .i64 e.at_, .int .i64 e.n, .string e.data, .int .i64 e.size]
def Res.cells (r : Res) : List Value := [.int .i64 r.code, .string r.data, .int .i64 r.n, .slice r.names.A r.names.xs.length r.names.c, .int .i64 r.kind, .int .i64 r.size]
def encEff : Enc Eff := ⟨7, by decide, fun e => [.int .i64 e.kind, .int .i64 e.file, .int .i64 e.gone, .int .i64 e.at_, .int .i64 e.n, .string e.data, .int .i64 e.size], fun _ => rfl, fun x v h => by simp at h; rcases h with rfl | rfl | rfl | rfl | rfl | rfl | rfl <;> rfl⟩
def encSlt : Enc Slt := ⟨4, by decide, fun e => [.int .i64 e.object, .int .i64 e.was, .int .i64 e.file, .int .i64 e.bucket], fun _ => rfl, fun x v h => by simp at h; rcases h with rfl | rfl | rfl | rfl <;> rfl⟩
def encRes : Enc Res := ⟨6, by decide, fun r => [.int .i64 r.code, .string r.data, .int .i64 r.n, .slice r.names.A r.names.xs.length r.names.c, .int .i64 r.kind, .int .i64 r.size], fun _ => rfl, fun x v h => by simp at h; rcases h with rfl | rfl | rfl | rfl | rfl | rfl <;> rfl⟩
def encStp : Enc Stp := ⟨13, by decide, fun s => [.int .i64 s.res.code, .string s.res.data, .int .i64 s.res.n, .slice s.res.names.A s.res.names.xs.length s.res.names.c, .int .i64 s.res.kind, .int .i64 s.res.size, .int .i64 s.eff.kind, .int .i64 s.eff.file, .int .i64 s.eff.gone, .int .i64 s.eff.at_, .int .i64 s.eff.n, .string s.eff.data, .int .i64 s.eff.size], fun _ => rfl, fun x v h => by simp at h; rcases h with rfl | rfl | rfl | rfl | rfl | rfl | rfl | rfl | rfl | rfl | rfl | rfl | rfl <;> rfl⟩
instance : EncSz encEff 7 := ⟨rfl⟩
instance : EncSz encSlt 4 := ⟨rfl⟩
instance : EncSz encRes 6 := ⟨rfl⟩
instance : EncSz encStp 13 := ⟨rfl⟩
instance encAll_eff {e : Eff} : EncAll encEff e [.int .i64 e.kind, .int .i64 e.file, .int .i64 e.gone, .int .i64 e.at_, .int .i64 e.n, .string e.data, .int .i64 e.size] := ⟨rfl⟩
instance encAll_slt {e : Slt} : EncAll encSlt e [.int .i64 e.object, .int .i64 e.was, .int .i64 e.file, .int .i64 e.bucket] := ⟨rfl⟩
instance encAll_res {r : Res} : EncAll encRes r [.int .i64 r.code, .string r.data, .int .i64 r.n, .slice r.names.A r.names.xs.length r.names.c, .int .i64 r.kind, .int .i64 r.size] := ⟨rfl⟩
instance encAll_stp {s : Stp} : EncAll encStp s [.int .i64 s.res.code, .string s.res.data, .int .i64 s.res.n, .slice s.res.names.A s.res.names.xs.length s.res.names.c, .int .i64 s.res.kind, .int .i64 s.res.size, .int .i64 s.eff.kind, .int .i64 s.eff.file, .int .i64 s.eff.gone, .int .i64 s.eff.at_, .int .i64 s.eff.n, .string s.eff.data, .int .i64 s.eff.size] := ⟨rfl⟩
instance decL_eff {a b c d f z : Int} {s : ByteArray} {vs : List Value} {xs : List Eff} [h : DecL encEff vs xs] : DecL encEff (.int .i64 a :: .int .i64 b :: .int .i64 c :: .int .i64 d :: .int .i64 f :: .string s :: .int .i64 z :: vs) (⟨a, b, c, d, f, s, z⟩ :: xs) := ⟨by rw [List.flatMap_cons, h.out]; rfl⟩
instance decL_slt {a b c d : Int} {vs : List Value} {xs : List Slt} [h : DecL encSlt vs xs] : DecL encSlt (.int .i64 a :: .int .i64 b :: .int .i64 c :: .int .i64 d :: vs) (⟨a, b, c, d⟩ :: xs) := ⟨by rw [List.flatMap_cons, h.out]; rfl⟩
instance decL_res0 {a b c d : Int} {s : ByteArray} {vs : List Value} {xs : List Res} [h : DecL encRes vs xs] : DecL encRes (.int .i64 a :: .string s :: .int .i64 b :: .slice none 0 0 :: .int .i64 c :: .int .i64 d :: vs) (⟨a, s, b, ⟨none, 0, []⟩, c, d⟩ :: xs) := ⟨by rw [List.flatMap_cons, h.out]; rfl⟩
instance decL_res {a b c d : Int} {s : ByteArray} {A : Option Addr} {k : Nat} {l : List ByteArray} {vs : List Value} {xs : List Res} [h : DecL encRes vs xs] : DecL encRes (.int .i64 a :: .string s :: .int .i64 b :: .slice A l.length k :: .int .i64 c :: .int .i64 d :: vs) (⟨a, s, b, ⟨A, k, l⟩, c, d⟩ :: xs) := ⟨by rw [List.flatMap_cons, h.out]; rfl⟩
/-! ### What the calls do -/
def bE : ByteArray := ⟨#[]⟩
abbrev Live := List (Int × List UInt8)
def bstr (l : List UInt8) : ByteArray := ⟨l.toArray⟩
def zeros (n : Nat) : List UInt8 := List.replicate n 0
/-- A content of at least n bytes. -/
def grownF (b : List UInt8) (n : Nat) : List UInt8 := b ++ zeros (n - b.length)
/-- Bytes laid into a content. -/
def writeF (b : List UInt8) (at_ : Nat) (d : List UInt8) : List UInt8 := if d = [] then b else (grownF b (at_ + d.length)).take at_ ++ d ++ (grownF b (at_ + d.length)).drop (at_ + d.length)
/-- A content of n bytes. -/
def cutF (b : List UInt8) (n : Nat) : List UInt8 := b.take n ++ zeros (n - b.length)
def madeS (l : Live) (e : Eff) : Option (Live × ByteArray) := if (mget l e.file).isSome ∨ e.file < 0 then none else some (mput l e.file [], bE)
def readS (l : Live) (e : Eff) : Option (Live × ByteArray) :=
  let b := (mget l e.file).getD []
  if e.size ≠ b.length ∨ min e.at_ e.n < 0 then none else if e.n = 0 then some (l, bE) else if (b.length : Int) < e.at_ ∨ b.length - e.at_ < e.n then none else some (l, bstr ((b.drop e.at_.toNat).take e.n.toNat))
def writeS (l : Live) (e : Eff) : Option (Live × ByteArray) :=
  if e.at_ < 0 ∨ 65536 < e.at_ ∨ 65536 - e.at_ < e.data.size then none else
    let b := writeF ((mget l e.file).getD []) e.at_.toNat e.data.data.toList
    if (b.length : Int) = e.size then some (mput l e.file b, bE) else none
def cutS (l : Live) (e : Eff) : Option (Live × ByteArray) :=
  if e.n < 0 ∨ 65536 < e.n ∨ e.size ≠ e.n then none else some (mput l e.file (cutF ((mget l e.file).getD []) e.n.toNat), bE)
def goneS (l : Live) (e : Eff) : Option (Live × ByteArray) := some (mdel l e.file, bE)
def overS (l : Live) (e : Eff) : Option (Live × ByteArray) := if (mget l e.gone).isSome then some (mdel l e.gone, bE) else none
/-- An effect: the live ones behind it, what was read; none: it does not fit. -/
def stepS (l : Live) (e : Eff) : Option (Live × ByteArray) :=
  if e.kind = 1 then madeS l e else if e.kind = 6 then overS l e else if (mget l e.file).isNone then none else
    if e.kind = 2 then readS l e else if e.kind = 3 then writeS l e else if e.kind = 4 then cutS l e else if e.kind = 5 then goneS l e else none
/-- The live contents at the start. -/
def beginStep (l : Live) (p : Slt × ByteArray) : Option Live :=
  if p.1.was = -1 ∧ p.2 = bE then some l else if (mget l p.1.was).isSome ∨ p.1.was ≤ -1 then none else some (mput l p.1.was p.2.data.toList)
def beginF (slots : List Slt) (cs : List ByteArray) : Option Live := if slots.length = cs.length then (slots.zip cs).foldlM beginStep [] else none
/-- The slots' contents at the end. -/
def endStep (q : Live × List ByteArray) (s : Slt) : Option (Live × List ByteArray) :=
  if s.file = -1 then some (q.1, q.2 ++ [bE]) else match mget q.1 s.file with | none => none | some b => some (mdel q.1 s.file, q.2 ++ [bstr b])
def endF (l : Live) (slots : List Slt) : Option (List ByteArray) := (slots.foldlM endStep (l, [])).bind fun q => if q.1 = [] then some q.2 else none
/-- A result as plain data. -/
structure RP where
  code : Int
  data : ByteArray
  n : Int
  names : List ByteArray
  kind : Int
  size : Int
deriving DecidableEq
def Res.pl (r : Res) : RP := ⟨r.code, r.data, r.n, r.names.xs, r.kind, r.size⟩
/-- A step of a plan. -/
def runStep (q : Live × List RP) (s : RP × Eff) : Option (Live × List RP) :=
  if s.1.code = 0 ∧ s.2.kind ≠ 0 then (stepS q.1 s.2).map fun (l, d) => (l, q.2 ++ [if s.2.kind = 2 then { s.1 with data := d } else s.1]) else some (q.1, q.2 ++ [s.1])
def runF (l : Live) (steps : List (RP × Eff)) : Option (Live × List RP) := steps.foldlM runStep (l, [])
def applyF (slots : List Slt) (steps : List (RP × Eff)) (cs : List ByteArray) : Option (List RP × List ByteArray) :=
  (beginF slots cs).bind fun l => (runF l steps).bind fun q => (endF q.1 slots).map fun out => (q.2, out)
/-! ### How it is held -/
/-- A file's content. -/
def rowR (p : Int × Sl UInt8) : Hp := own encU p.2.A p.2.c p.2.xs
@[reducible] def slV (s : Sl UInt8) : Value := .slice s.A s.xs.length s.c
abbrev deskQ (b : Nat) (l : Live) (M : List Hp) : Prop := ∃ r ms, ms.map (fun (p : Int × Sl UInt8) => (p.1, p.2.xs)) = l ∧ (keys ms).Nodup ∧ (∀ p ∈ ms, p.2.xs.length ≤ 140737488351232) ∧ M = [cells b 0 [.map (some r)], mapR (Value.int .i64) slV r ms, allR rowR ms]
def deskR (b : Nat) (l : Live) : Hp := exs (deskQ b l)
theorem deskR_eq (b : Nat) (l : Live) : deskR b l = exs (deskQ b l) := rfl
attribute [irreducible] deskR
end Go.Proofs.YtcoohckdnefacaaDoor.S
