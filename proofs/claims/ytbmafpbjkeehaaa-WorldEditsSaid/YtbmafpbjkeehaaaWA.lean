/- world: how its data lie; what it does, plainly -/
import Derived.Test.YtbmafpbjkeehaaaST
import Derived.Test.YtbmafpbjkeehaaaS20
namespace Go.Proofs.Ytbmafpbjkeehaaa.S
open Go.RowKit
set_option linter.unusedVariables false
set_option linter.unusedSimpArgs false
set_option maxRecDepth 100000
def bE : ByteArray := ⟨#[]⟩
@[ext] structure Blb where
  name : ByteArray
  blob : ByteArray
  deriving DecidableEq
@[ext] structure Reg where
  cur : ByteArray
  pend : ByteArray
  stop : Bool
  deriving DecidableEq
structure Chg where
  name : ByteArray
  blob : ByteArray
  gone : Bool
structure Cal where
  kind : Int
  name : ByteArray
  blob : ByteArray
  code : Int
  reply : ByteArray
  names : Sl ByteArray
structure CP where
  kind : Int
  name : ByteArray
  blob : ByteArray
  code : Int
  reply : ByteArray
  names : List ByteArray
def Cal.pl (c : Cal) : CP := ⟨c.kind, c.name, c.blob, c.code, c.reply, c.names.xs⟩
structure Edt where
  before : Int
  kind : Int
  put : Int
  src : Int
  name : ByteArray
  blob : ByteArray
def encBlb : Enc Blb := ⟨2, by decide, fun e => [.string e.name, .string e.blob], fun _ => rfl, fun x v h => by simp at h; rcases h with rfl | rfl <;> rfl⟩
def encChg : Enc Chg := ⟨3, by decide, fun e => [.string e.name, .string e.blob, .bool e.gone], fun _ => rfl, fun x v h => by simp at h; rcases h with rfl | rfl | rfl <;> rfl⟩
def encCal : Enc Cal := ⟨6, by decide, fun r => [.int .i64 r.kind, .string r.name, .string r.blob, .int .i64 r.code, .string r.reply, .slice r.names.A r.names.xs.length r.names.c], fun _ => rfl, fun x v h => by simp at h; rcases h with rfl | rfl | rfl | rfl | rfl | rfl <;> rfl⟩
def encEdt : Enc Edt := ⟨6, by decide, fun r => [.int .i64 r.before, .int .i64 r.kind, .int .i64 r.put, .int .i64 r.src, .string r.name, .string r.blob], fun _ => rfl, fun x v h => by simp at h; rcases h with rfl | rfl | rfl | rfl | rfl | rfl <;> rfl⟩
instance : EncSz encBlb 2 := ⟨rfl⟩
instance : EncSz encChg 3 := ⟨rfl⟩
instance : EncSz encCal 6 := ⟨rfl⟩
instance : EncSz encEdt 6 := ⟨rfl⟩
instance encAll_blb {e : Blb} : EncAll encBlb e [.string e.name, .string e.blob] := ⟨rfl⟩
instance encAll_chg {e : Chg} : EncAll encChg e [.string e.name, .string e.blob, .bool e.gone] := ⟨rfl⟩
instance encAll_cal {r : Cal} : EncAll encCal r [.int .i64 r.kind, .string r.name, .string r.blob, .int .i64 r.code, .string r.reply, .slice r.names.A r.names.xs.length r.names.c] := ⟨rfl⟩
instance encAll_edt {r : Edt} : EncAll encEdt r [.int .i64 r.before, .int .i64 r.kind, .int .i64 r.put, .int .i64 r.src, .string r.name, .string r.blob] := ⟨rfl⟩
instance decL_blb {a b : ByteArray} {vs : List Value} {xs : List Blb} [h : DecL encBlb vs xs] : DecL encBlb (.string a :: .string b :: vs) (⟨a, b⟩ :: xs) := ⟨by rw [List.flatMap_cons, h.out]; rfl⟩
instance decL_chg {a b : ByteArray} {c : Bool} {vs : List Value} {xs : List Chg} [h : DecL encChg vs xs] : DecL encChg (.string a :: .string b :: .bool c :: vs) (⟨a, b, c⟩ :: xs) := ⟨by rw [List.flatMap_cons, h.out]; rfl⟩
instance decL_cal0 {a b : Int} {s t u : ByteArray} {vs : List Value} {xs : List Cal} [h : DecL encCal vs xs] : DecL encCal (.int .i64 a :: .string s :: .string t :: .int .i64 b :: .string u :: .slice none 0 0 :: vs) (⟨a, s, t, b, u, ⟨none, 0, []⟩⟩ :: xs) := ⟨by rw [List.flatMap_cons, h.out]; rfl⟩
instance decL_cal {a b : Int} {s t u : ByteArray} {A : Option Addr} {k : Nat} {l : List ByteArray} {vs : List Value} {xs : List Cal} [h : DecL encCal vs xs] : DecL encCal (.int .i64 a :: .string s :: .string t :: .int .i64 b :: .string u :: .slice A l.length k :: vs) (⟨a, s, t, b, u, ⟨A, k, l⟩⟩ :: xs) := ⟨by rw [List.flatMap_cons, h.out]; rfl⟩
instance decL_edt {a b c d : Int} {s t : ByteArray} {vs : List Value} {xs : List Edt} [h : DecL encEdt vs xs] : DecL encEdt (.int .i64 a :: .int .i64 b :: .int .i64 c :: .int .i64 d :: .string s :: .string t :: vs) (⟨a, b, c, d, s, t⟩ :: xs) := ⟨by rw [List.flatMap_cons, h.out]; rfl⟩
instance encSet_cal_names {r : Cal} {A : Option Addr} {k : Nat} {l : List ByteArray} : EncSet encCal r 5 [.slice A l.length k] ⟨r.kind, r.name, r.blob, r.code, r.reply, ⟨A, k, l⟩⟩ := ⟨Nat.le_of_ble_eq_true rfl, rfl⟩
/-! ### What the calls do -/
structure Wd where
  objs : List (ByteArray × ByteArray)
  reg : Reg
  off : Bool
  left : Nat
  trace : List CP
  puts : List Blb
  chg : List Chg
  marks : List Int
  planned : List (Int × List Edt)
  edits : Int
def Wd.new : Wd := ⟨[], ⟨bE, bE, false⟩, false, 0, [], [], [], [], [], 0⟩
def labB (s : ByteArray) : Bool := decide (0 < s.size ∧ s.size ≤ 64)
def setW (σ : Wd) (n x : ByteArray) : Wd := { σ with objs := mput σ.objs n x, chg := σ.chg ++ [⟨n, x, false⟩] }
def dropW (σ : Wd) (n : ByteArray) : Wd := if (mget σ.objs n).isSome then { σ with objs := mdel σ.objs n, chg := σ.chg ++ [⟨n, bE, true⟩] } else σ
def readyE (σ : Wd) (l : List ByteArray) : Int := if σ.off then 100 else if l.all labB then 0 else 1
def burnW (σ : Wd) : Wd := if σ.left > 0 then { σ with left := σ.left - 1, off := decide (σ.left - 1 = 0) } else σ
def markW (σ : Wd) : Wd := { σ with marks := σ.marks ++ [(σ.chg.length : Int)] }
def endW (σ : Wd) (c : CP) : Wd := burnW { σ with trace := σ.trace ++ [c] }
/-- The names of the objects, rising. -/
def namesW (σ : Wd) : List ByteArray := sortS (keys σ.objs)
def dumpW (σ : Wd) : List Blb := (namesW σ).map fun n => ⟨n, (mget σ.objs n).getD bE⟩
/-! ### How it is held -/
def calR (c : Cal) : Hp := own encS c.names.A c.names.c c.names.xs
def edR (p : Int × Sl Edt) : Hp := own encEdt p.2.A p.2.c p.2.xs
@[reducible] def slE (s : Sl Edt) : Value := .slice s.A s.xs.length s.c
def plP (p : Int × Sl Edt) : Int × List Edt := (p.1, p.2.xs)
abbrev worldQ (b : Nat) (σ : Wd) (M : List Hp) : Prop := ∃ (ro rp : Nat) (At Ap Ac Am : Option Addr) (ct cp cc cm : Nat) (tr : List Cal) (pl : List (Int × Sl Edt)), tr.map Cal.pl = σ.trace ∧ pl.map plP = σ.planned ∧ (keys σ.objs).Nodup ∧ σ.left ≤ 9223372036854775807 ∧
  M = [cells b 0 [.map (some ro), .string σ.reg.cur, .string σ.reg.pend, .bool σ.reg.stop, .bool σ.off, .int .i64 (σ.left : Int), .slice At tr.length ct, .slice Ap σ.puts.length cp, .slice Ac σ.chg.length cc, .slice Am σ.marks.length cm, .map (some rp), .int .i64 σ.edits], mapR Value.string Value.string ro σ.objs, own encCal At ct tr, allR calR tr, own encBlb Ap cp σ.puts, own encChg Ac cc σ.chg, own encI Am cm σ.marks, mapR (Value.int .i64) slE rp pl, allR edR pl]
def worldR (b : Nat) (σ : Wd) : Hp := exs (worldQ b σ)
theorem worldR_eq (b : Nat) (σ : Wd) : worldR b σ = exs (worldQ b σ) := rfl
attribute [irreducible] worldR
theorem LE.foldW {b : Nat} {τ : Wd} {ro rp : Nat} {At Ap Ac Am : Option Addr} {ct cp cc cm : Nat} {tr : List Cal} {pl : List (Int × Sl Edt)} {L L' : List Hp} (htr : tr.map Cal.pl = τ.trace) (hpl : pl.map plP = τ.planned) (hnd : (keys τ.objs).Nodup) (hleft : τ.left ≤ 9223372036854775807)
    (hp : Picks [cells b 0 [.map (some ro), .string τ.reg.cur, .string τ.reg.pend, .bool τ.reg.stop, .bool τ.off, .int .i64 (τ.left : Int), .slice At tr.length ct, .slice Ap τ.puts.length cp, .slice Ac τ.chg.length cc, .slice Am τ.marks.length cm, .map (some rp), .int .i64 τ.edits], mapR Value.string Value.string ro τ.objs, own encCal At ct tr, allR calR tr, own encBlb Ap cp τ.puts, own encChg Ac cc τ.chg, own encI Am cm τ.marks, mapR (Value.int .i64) slE rp pl, allR edR pl] L L') : LE L [worldR b τ] :=
  LE.trans (LE.fold (worldR_eq b τ) ⟨ro, rp, At, Ap, Ac, Am, ct, cp, cc, cm, tr, pl, htr, hpl, hnd, hleft, rfl⟩ hp) (LE.sub (by (repeat' (first | exact Pick.here | apply Pick.there | apply Picks.cons | exact Picks.nil))))
theorem LE.keepW {b : Nat} (τ : Wd) {ro rp : Nat} {At Ap Ac Am : Option Addr} {ct cp cc cm : Nat} {tr : List Cal} {pl : List (Int × Sl Edt)} {L L' : List Hp} (htr : tr.map Cal.pl = τ.trace) (hpl : pl.map plP = τ.planned) (hnd : (keys τ.objs).Nodup) (hleft : τ.left ≤ 9223372036854775807)
    (hp : Picks [cells b 0 [.map (some ro), .string τ.reg.cur, .string τ.reg.pend, .bool τ.reg.stop, .bool τ.off, .int .i64 (τ.left : Int), .slice At tr.length ct, .slice Ap τ.puts.length cp, .slice Ac τ.chg.length cc, .slice Am τ.marks.length cm, .map (some rp), .int .i64 τ.edits], mapR Value.string Value.string ro τ.objs, own encCal At ct tr, allR calR tr, own encBlb Ap cp τ.puts, own encChg Ac cc τ.chg, own encI Am cm τ.marks, mapR (Value.int .i64) slE rp pl, allR edR pl] L L') : LE L (worldR b τ :: L') :=
  LE.fold (worldR_eq b τ) ⟨ro, rp, At, Ap, Ac, Am, ct, cp, cc, cm, tr, pl, htr, hpl, hnd, hleft, rfl⟩ hp
end Go.Proofs.Ytbmafpbjkeehaaa.S
