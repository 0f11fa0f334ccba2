/- pool: how its data lie -/
import Derived.Test.YtjmicpkinflofaaDoorST
namespace Go.Proofs.YtjmicpkinflofaaDoor.S
open Go.RowKit
set_option linter.unusedVariables false
set_option linter.unusedSimpArgs false
set_option maxRecDepth 100000
set_option maxHeartbeats 4000000
structure PObj where
  name : ByteArray
  tag : ByteArray
  bucket : Int
  owner : Int
deriving DecidableEq
structure PRow where
  o : PObj
  queued : Bool
def encObj : Enc PObj := ⟨4, by decide, fun r => [.string r.name, .string r.tag, .int .i64 r.bucket, .int .i64 r.owner], fun _ => rfl, fun x v h => by simp at h; rcases h with rfl | rfl | rfl | rfl <;> rfl⟩
def encRow : Enc PRow := ⟨5, by decide, fun r => [.string r.o.name, .string r.o.tag, .int .i64 r.o.bucket, .int .i64 r.o.owner, .bool r.queued], fun _ => rfl, fun x v h => by simp at h; rcases h with rfl | rfl | rfl | rfl | rfl <;> rfl⟩
instance : EncSz encObj 4 := ⟨rfl⟩
instance : EncSz encRow 5 := ⟨rfl⟩
instance encAll_obj {r : PObj} : EncAll encObj r [.string r.name, .string r.tag, .int .i64 r.bucket, .int .i64 r.owner] := ⟨rfl⟩
instance encAll_row {r : PRow} : EncAll encRow r [.string r.o.name, .string r.o.tag, .int .i64 r.o.bucket, .int .i64 r.o.owner, .bool r.queued] := ⟨rfl⟩
instance decL_obj {a b : ByteArray} {c d : Int} {vs : List Value} {xs : List PObj} [h : DecL encObj vs xs] : DecL encObj (.string a :: .string b :: .int .i64 c :: .int .i64 d :: vs) (⟨a, b, c, d⟩ :: xs) := ⟨by rw [List.flatMap_cons, h.out]; rfl⟩
instance decL_row {a b : ByteArray} {c d : Int} {q : Bool} {vs : List Value} {xs : List PRow} [h : DecL encRow vs xs] : DecL encRow (.string a :: .string b :: .int .i64 c :: .int .i64 d :: .bool q :: vs) (⟨⟨a, b, c, d⟩, q⟩ :: xs) := ⟨by rw [List.flatMap_cons, h.out]; rfl⟩
instance encSet_row_obj {r : PRow} {a b : ByteArray} {c d : Int} : EncSet encRow r 0 [.string a, .string b, .int .i64 c, .int .i64 d] ⟨⟨a, b, c, d⟩, r.queued⟩ := ⟨Nat.le_of_ble_eq_true rfl, rfl⟩
instance encSet_row_owner {r : PRow} {d : Int} : EncSet encRow r 3 [.int .i64 d] ⟨⟨r.o.name, r.o.tag, r.o.bucket, d⟩, r.queued⟩ := ⟨Nat.le_of_ble_eq_true rfl, rfl⟩
instance encSet_row_queued {r : PRow} {q : Bool} : EncSet encRow r 4 [.bool q] ⟨r.o, q⟩ := ⟨Nat.le_of_ble_eq_true rfl, rfl⟩
instance encSet_obj {r : PObj} {a b : ByteArray} {c d : Int} : EncSet encObj r 0 [.string a, .string b, .int .i64 c, .int .i64 d] ⟨a, b, c, d⟩ := ⟨Nat.le_of_ble_eq_true rfl, rfl⟩
/-! ### What a pool is -/
/-- Files; rows; the queue. -/
structure Pl where
  files : Int
  rows : List PObj
  queue : List Int
def bE : ByteArray := ⟨#[]⟩
def dum : PObj := ⟨bE, bE, 0, -1⟩
def labelOk (s : ByteArray) : Bool := decide (s = bE) || decide ((s.size : Int) = 16)
def okRow (o : PObj) (files : Int) : Bool := labelOk o.name && labelOk o.tag && decide (0 ≤ o.bucket) && decide (o.bucket ≤ 1048576) && decide (-1 ≤ o.owner) && decide (o.owner < files)
def namedAt (rows : List PObj) (s : ByteArray) : Option Nat := rows.findIdx? fun o => decide (o.name = s)
def ownedAt (rows : List PObj) (f : Int) : Option Nat := rows.findIdx? fun o => decide (o.owner = f)
def badSize (f s : Int) : Bool := decide (f < 1) || decide (65536 < f) || decide (s < 1) || decide (64 < s)
def Pl.bad (σ : Pl) (i : Int) : Bool := decide (i < 0) || decide ((σ.rows.length : Int) ≤ i)
def Pl.row (σ : Pl) (i : Int) : PObj := σ.rows.getD i.toNat dum
def Pl.set (σ : Pl) (i : Int) (o : PObj) : Pl := { σ with rows := σ.rows.set i.toNat o }
def newF (f s : Int) : Option Pl × Int := if badSize f s then (none, 1) else (some ⟨f, List.replicate (f + s).toNat dum, (List.range (f + s).toNat).map fun (k : Nat) => (k : Int)⟩, 0)
def atF (σ : Pl) (i : Int) : PObj × Int := if σ.bad i then (⟨bE, bE, 0, 0⟩, 131) else (σ.row i, 0)
def byOwnerF (σ : Pl) (f : Int) : Int × Int := if f < 0 ∨ σ.files ≤ f then (0, 1) else match ownedAt σ.rows f with | none => (0, 132) | some k => ((k : Int), 0)
def byNameF (σ : Pl) (s : ByteArray) : Int × Int := if s = bE then (0, 131) else match namedAt σ.rows s with | none => (0, 131) | some k => ((k : Int), 0)
def popF (σ : Pl) : (Int × Int) × Pl := match σ.queue with | [] => ((0, 131), σ) | i :: q => ((i, 0), { σ with queue := q })
def pushF (σ : Pl) (i : Int) : Int × Pl := if σ.bad i then (131, σ) else if 0 ≤ (σ.row i).owner ∨ i ∈ σ.queue then (132, σ) else (0, { σ with queue := σ.queue ++ [i] })
def assignF (σ : Pl) (i f : Int) : Int × Pl := if σ.bad i then (131, σ) else if f < 0 ∨ σ.files ≤ f then (1, σ) else if 0 ≤ (σ.row i).owner ∨ i ∈ σ.queue ∨ (ownedAt σ.rows f).isSome then (132, σ) else (0, σ.set i { σ.row i with owner := f })
def releaseF (σ : Pl) (i : Int) : Int × Pl := if σ.bad i then (131, σ) else if (σ.row i).owner < 0 then (132, σ) else (0, σ.set i { σ.row i with owner := -1 })
/-- Has another row the name? -/
def takenBy (σ : Pl) (s : ByteArray) (i : Int) : Bool := if s = bE then false else match namedAt σ.rows s with | none => false | some k => decide ((k : Int) ≠ i)
def setF (σ : Pl) (i : Int) (name tag : ByteArray) (bucket : Int) : Int × Pl :=
  if σ.bad i then (131, σ) else if !okRow ⟨name, tag, bucket, (σ.row i).owner⟩ σ.files then (1, σ) else if takenBy σ name i then (1, σ) else (0, σ.set i ⟨name, tag, bucket, (σ.row i).owner⟩)
/-- What a pool's state is behind any calls. -/
structure Wf (σ : Pl) : Prop where
  fl : 1 ≤ σ.files ∧ σ.files ≤ 65536
  len : σ.rows.length ≤ 65600
  row : ∀ (k : Nat) o, σ.rows[k]? = some o → okRow o σ.files = true
  names : ∀ (i j : Nat) a b, σ.rows[i]? = some a → σ.rows[j]? = some b → a.name = b.name → a.name ≠ bE → i = j
  owners : ∀ (i j : Nat) a b, σ.rows[i]? = some a → σ.rows[j]? = some b → a.owner = b.owner → 0 ≤ a.owner → i = j
  nd : σ.queue.Nodup
  qr : ∀ i ∈ σ.queue, ∃ (k : Nat) (o : PObj), i = (k : Int) ∧ σ.rows[k]? = some o ∧ o.owner = -1
def qd (q : List Int) (k : Nat) : Bool := decide ((k : Int) ∈ q)
def rowsQ (rows : List PObj) (q : List Int) : List PRow := rows.mapIdx fun k o => ⟨o, qd q k⟩
/-! ### How the program holds it -/
/-- A ring's items, head first. -/
def ringL (items : List Int) (head n : Nat) : List Int := (List.range n).map fun k => items.getD ((head + k) % items.length) 0
structure RingWf (items : List Int) (head n : Nat) (l : List Int) : Prop where
  le : n ≤ items.length
  hd : items = [] ∨ head < items.length
  cap : items.length ≤ 4000000
  eq : ringL items head n = l
abbrev ringQ (b o : Nat) (l : List Int) (M : List Hp) : Prop := ∃ A c items head n, RingWf items head n l ∧ M = [cells b o [.slice A items.length c, .int .i64 (head : Int), .int .i64 (n : Int)], own encI A c items]
def ringR (b o : Nat) (l : List Int) : Hp := exs (ringQ b o l)
theorem ringR_eq (b o : Nat) (l : List Int) : ringR b o l = exs (ringQ b o l) := rfl
attribute [irreducible] ringR
def NamesOk (m : List (ByteArray × Int)) (rows : List PObj) : Prop := (keys m).Nodup ∧ ∀ s, mget m s = if s = bE then none else (namedAt rows s).map fun (k : Nat) => (k : Int)
def OwnersOk (m : List (Int × Int)) (rows : List PObj) : Prop := (keys m).Nodup ∧ ∀ f, mget m f = if f < 0 then none else (ownedAt rows f).map fun (k : Nat) => (k : Int)
abbrev poolQ (b : Nat) (σ : Pl) (M : List Hp) : Prop := ∃ A c rn ro mn mo n, n = σ.rows.length ∧ Wf σ ∧ NamesOk mn σ.rows ∧ OwnersOk mo σ.rows ∧ M = [cells b 0 [.int .i64 σ.files, .slice A n c, .map (some rn), .map (some ro)], own encRow A c (rowsQ σ.rows σ.queue), mapR Value.string (Value.int .i64) rn mn, mapR (Value.int .i64) (Value.int .i64) ro mo, ringR b 4 σ.queue]
def poolR (b : Nat) (σ : Pl) : Hp := exs (poolQ b σ)
theorem poolR_eq (b : Nat) (σ : Pl) : poolR b σ = exs (poolQ b σ) := rfl
attribute [irreducible] poolR
/-- The document's own pool. -/
abbrev refQ (b : Nat) (σ : Pl) (M : List Hp) : Prop := ∃ A c B d, M = [cells b 0 [.int .i64 σ.files, .slice A σ.rows.length c, .slice B σ.queue.length d], own encObj A c σ.rows, own encI B d σ.queue]
def refR (b : Nat) (σ : Pl) : Hp := exs (refQ b σ)
theorem refR_eq (b : Nat) (σ : Pl) : refR b σ = exs (refQ b σ) := rfl
attribute [irreducible] refR
def objV (o : PObj) : Value := .agg [.string o.name, .string o.tag, .int .i64 o.bucket, .int .i64 o.owner].toArray
def ptr (b o : Nat) : Value := .pointer (some ⟨b, o, none⟩)
/-! ### Plain lemmas -/
theorem rowsQ_len (rows : List PObj) (q : List Int) : (rowsQ rows q).length = rows.length := by simp [rowsQ]
theorem rowsQ_get {rows : List PObj} {q : List Int} {k : Nat} {o : PObj} (h : rows[k]? = some o) : (rowsQ rows q)[k]? = some ⟨o, qd q k⟩ := by simp [rowsQ, h]
theorem rowsQ_set {rows : List PObj} {q : List Int} {k : Nat} {o : PObj} {b : Bool} (hb : b = qd q k) : (rowsQ rows q).set k ⟨o, b⟩ = rowsQ (rows.set k o) q := by
  subst hb
  apply List.ext_getElem?
  intro i
  unfold rowsQ
  rw [List.getElem?_set, List.getElem?_mapIdx, List.getElem?_mapIdx, List.getElem?_set]
  by_cases hi : k = i
  · subst hi
    simp only [List.length_mapIdx, if_true]
    split <;> rfl
  · rw [if_neg hi, if_neg hi]
theorem rowsQ_queue {rows : List PObj} {q q' : List Int} {k : Nat} {o : PObj} {b : Bool} (ho : rows[k]? = some o) (hb : b = qd q' k) (hq : ∀ i, i ≠ k → qd q' i = qd q i) : (rowsQ rows q).set k ⟨o, b⟩ = rowsQ rows q' := by
  subst hb
  apply List.ext_getElem?
  intro i
  unfold rowsQ
  rw [List.getElem?_set, List.getElem?_mapIdx, List.getElem?_mapIdx]
  by_cases hi : k = i
  · subst hi
    rw [if_pos rfl, ho]
    simp [(List.getElem?_eq_some_iff.1 ho).1]
  · rw [if_neg hi]
    cases rows[i]? with
    | none => rfl
    | some x => simp [hq i (fun h => hi h.symm)]
theorem rowsQ_snoc {rows : List PObj} {q : List Int} {o : PObj} {b : Bool} (hb : b = qd q rows.length) : rowsQ rows q ++ [⟨o, b⟩] = rowsQ (rows ++ [o]) q := by
  subst hb
  simp [rowsQ, List.mapIdx_append]
theorem findIdx_first {α : Type} {p : α → Bool} {l : List α} {k : Nat} {x : α} (h : l[k]? = some x) (hp : p x = true) (hu : ∀ (i : Nat) y, i < k → l[i]? = some y → p y = false) : l.findIdx? p = some k := by
  rw [List.findIdx?_eq_some_iff_getElem]
  obtain ⟨hk, rfl⟩ := List.getElem?_eq_some_iff.1 h
  exact ⟨hk, hp, fun j hj => by rw [hu j (l[j]'(by omega)) hj (List.getElem?_eq_getElem _)]; simp⟩
theorem findIdx_none {α : Type} {p : α → Bool} {l : List α} : l.findIdx? p = none ↔ ∀ (k : Nat) x, l[k]? = some x → p x = false := by
  rw [List.findIdx?_eq_none_iff]
  constructor
  · exact fun h k x hx => h x (List.mem_of_getElem? hx)
  · intro h x hx
    obtain ⟨k, hk⟩ := List.mem_iff_getElem?.1 hx
    exact h k x hk
theorem findIdx_some {α : Type} {p : α → Bool} {l : List α} {k : Nat} (h : l.findIdx? p = some k) : ∃ x, l[k]? = some x ∧ p x = true ∧ ∀ (i : Nat) y, i < k → l[i]? = some y → p y = false := by
  rw [List.findIdx?_eq_some_iff_getElem] at h
  obtain ⟨hk, h1, h2⟩ := h
  exact ⟨_, List.getElem?_eq_getElem hk, h1, fun i y hi hy => by
    have := h2 i hi
    rw [List.getElem?_eq_getElem (by omega)] at hy
    rw [← Option.some.inj hy]
    simpa using this⟩
end Go.Proofs.YtjmicpkinflofaaDoor.S
