/- strings.Split at a slash and path.Parse, walked by hand: contracts for the printed callers. -/
import Derived.Test.YtecfnngbomnnjaaDoorGPath
import Derived.Laws.NewBlocks
import Derived.Lib.Bytealg
namespace Go.Proofs.YtecfnngbomnnjaaDoor.G
open Go.RowKit Go.Proofs.YtecfnngbomnnjaaDoorW.PrintWords Go.Proofs.YtecfnngbomnnjaaDoorW.PrintLast Go.Proofs.YtecfnngbomnnjaaDoorW.PrintMore
set_option linter.unusedVariables false
set_option linter.unusedSimpArgs false

/-- Where the first slash is; -1: nowhere. -/
def slashAt (s : ByteArray) : Int := Lib.indexByte s.data.toList 47
def slashes (s : ByteArray) : Nat := Lib.countByte s.data.toList 47
/-- The pieces between slashes, at most k + 1. -/
def pcs : Nat → ByteArray → List ByteArray
  | 0, s => [s]
  | k + 1, s => s.extract 0 (slashAt s).toNat :: pcs k (s.extract ((slashAt s).toNat + 1) s.size)
theorem pcs_length : ∀ (k : Nat) (s : ByteArray), (pcs k s).length = k + 1
  | 0, _ => rfl
  | k + 1, s => by simp [pcs, pcs_length k]
theorem index_count : ∀ (l : List UInt8) (c : UInt8), l.count c ≠ 0 → 0 ≤ Lib.indexByte l c ∧ (Lib.indexByte l c).toNat < l.length ∧ (l.drop ((Lib.indexByte l c).toNat + 1)).count c + 1 = l.count c
  | [], _, h => absurd rfl h
  | b :: l, c, h => by
    unfold Lib.indexByte
    by_cases e : (b == c) = true
    · rw [if_pos e]
      have : b = c := by simpa using e
      subst this
      simp
    · rw [if_neg e]
      have hb : ¬ b = c := by simpa using e
      have hc : (b :: l).count c = l.count c := by simp [List.count_cons, hb]
      rw [hc] at h
      obtain ⟨h1, h2, h3⟩ := index_count l c h
      have hne : ¬ (Lib.indexByte l c == -1) = true := by
        intro hx
        have : Lib.indexByte l c = -1 := by simpa using hx
        omega
      rw [if_neg hne]
      have e1 : (Lib.indexByte l c + 1).toNat = (Lib.indexByte l c).toNat + 1 := by omega
      refine ⟨by omega, by rw [e1]; simp; omega, ?_⟩
      rw [e1, hc, List.drop_succ_cons]
      exact h3
theorem slash_facts (s : ByteArray) (h : slashes s ≠ 0) : 0 ≤ slashAt s ∧ (slashAt s).toNat < s.size ∧ slashes (s.extract ((slashAt s).toNat + 1) s.size) + 1 = slashes s := by
  obtain ⟨h1, h2, h3⟩ := index_count s.data.toList 47 h
  refine ⟨h1, by have h4 : s.data.toList.length = s.size := by simp
                 rw [h4] at h2; exact h2, ?_⟩
  show ((s.extract ((slashAt s).toNat + 1) s.size).data.toList).count 47 + 1 = s.data.toList.count 47
  have e : (s.extract ((slashAt s).toNat + 1) s.size).data.toList = s.data.toList.drop ((slashAt s).toNat + 1) := by
    rw [ByteArray.data_extract, Array.toList_extract, List.extract_eq_take_drop, List.take_of_length_le (by simp)]
  rw [e]
  exact h3
theorem slashes_le (s : ByteArray) : slashes s ≤ s.size := by
  have h1 := List.count_le_length (a := (47 : UInt8)) (l := s.data.toList)
  have h4 : s.data.toList.length = s.size := by simp
  rw [h4] at h1
  exact h1
/-- The row as it is filled: the pieces that are done, then empty strings. -/
def fillRow (n : Nat) (done : List ByteArray) : Array Value := ((done ++ List.replicate (n - done.length) ByteArray.empty).map Value.string).toArray
theorem fillRow_size (n : Nat) (done : List ByteArray) (h : done.length ≤ n) : (fillRow n done).size = n := by
  simp [fillRow]
  omega
theorem fillRow_set (n : Nat) (done : List ByteArray) (x : ByteArray) (h : done.length < n) : (fillRow n done).setIfInBounds done.length (.string x) = fillRow n (done ++ [x]) := by
  apply Array.ext'
  simp only [fillRow, Array.toList_setIfInBounds, List.map_append, List.map_replicate]
  rw [List.set_append_right _ _ (by simp)]
  have e : n - done.length = (n - (done ++ [x]).length) + 1 := by simp; omega
  rw [e]
  simp [List.replicate_succ]

theorem madeCells_one (v : Value) (n : Nat) : (madeCells #[v] (n * 1)).toList = List.replicate n v := by
  unfold madeCells
  apply List.ext_getElem
  · simp
  · intro i h1 h2
    simp
    rw [Nat.mod_one]
    rfl
theorem make_strs (n : Nat) (c : Int) (hc : c = (n : Int)) (hn : n ≤ 100000) (W : World) :
    (Instr.makeSlice 22 (.int .i64 c) (.int .i64 c)).run Tryd.prog W = .ok (.slice (some ⟨W.heap.size, 0, none⟩) n n) (W.alloc (.cells (fillRow n []) 9)) := by
  subst hc
  obtain ⟨i, hi, hz, hsz, hb⟩ := info_parts info_str
  have h := run_make W 22 9 i (.string ⟨#[]⟩) Tryd.underlying22 hi hz .i64 .i64 (n : Int) (n : Int) (by omega) (by omega) (by rw [hb]; omega) (by omega)
  rw [h, hsz, Int.toNat_natCast]
  have e : madeCells (Value.string ⟨#[]⟩).cells (n * 1) = fillRow n [] := by
    apply Array.ext'
    rw [show (Value.string ⟨#[]⟩).cells = #[Value.string ⟨#[]⟩] by simp [Value.cells], madeCells_one]
    simp [fillRow]
    exact .inr rfl
  rw [e]

set_option maxHeartbeats 1600000 in
set_option maxRecDepth 100000 in
theorem genSplit_calls (s : ByteArray) (w : World) (hs : s.size ≤ 1024) :
    Calls Tryd.prog 39 #[.string s, .string ⟨#[47]⟩, .int .i64 0, .int .i64 (-1)] w fun e w' => e = .returned (.slice (some ⟨w.heap.size, 0, none⟩) (slashes s + 1) (slashes s + 1)) ∧ w' = w.alloc (.cells (fillRow (slashes s + 1) (pcs (slashes s) s)) 9) := by
  obtain ⟨N, hN⟩ : ∃ N, slashes s = N := ⟨_, rfl⟩
  have hle := slashes_le s
  rw [hN] at hle ⊢
  have HN := Aside0.mk hN
  clear hN
  go_enter Tryd.func39, Tryd.ntmps39
  go_wp2_with fail
  refine (Tryd.strings_Count_one s 47 w).mono ?_
  rintro e w1 ⟨rfl, rfl⟩
  rw [show Lib.countByte s.data.toList 47 = N from HN.out]
  have hmk := make_strs (N + 1) ((N : Int) + 1) (by omega) (by omega)
  have hmin : min (N : Int) (s.size : Int) = (N : Int) := by omega
  go_wp2_with fail
  clear hmk hmin
  have HS := Aside0.mk hs
  go_loopw [0, 10] (fun v0 v10 wr => ∃ (done : List ByteArray) (rest : ByteArray), done.length ≤ N ∧ v10 = .int .i64 done.length ∧ v0 = .string rest ∧ wr = w1.alloc (.cells (fillRow (N + 1) done) 9) ∧ Aside0 (slashes rest + done.length = N) ∧ Aside0 (pcs N s = done ++ pcs (N - done.length) rest) ∧ rest.size ≤ 1024) (fun _ v10 _ => N - (intOf v10).toNat)
  case atStart => exact ⟨[], s, Nat.zero_le _, rfl, rfl, rfl, ⟨by have := HN.out; simpa using this⟩, ⟨by simp⟩, HS.out⟩
  case round =>
    obtain ⟨done, rest, hd, rfl, rfl, rfl, HC, HP, hr⟩ := hrel
    have hcl : (w1.alloc (.cells (fillRow (N + 1) done) 9)).cell? ⟨w1.heap.size, done.length, none⟩ = some ((fillRow (N + 1) done)[done.length]'(by rw [fillRow_size _ _ (by omega)]; omega)) := by
      simp [go_sem]
    have hfr : (w1.alloc (.cells (fillRow (N + 1) done) 9)).frozen? ⟨w1.heap.size, done.length, none⟩ = false := by
      simp [go_sem]
    by_cases hlt : done.length < N
    · obtain ⟨h1, h2, h3⟩ := slash_facts rest (by have := HC.out; omega)
      obtain ⟨m, hm⟩ := Int.eq_ofNat_of_zero_le h1
      rw [hm, Int.toNat_natCast] at h2 h3
      have hset := fillRow_set (N + 1) done (rest.extract 0 m) (by omega)
      have HC' : Aside0 (slashes (rest.extract (m + 1) rest.size) + (done ++ [rest.extract 0 m]).length = N) := ⟨by have := HC.out; simp; omega⟩
      have HP' : Aside0 (pcs N s = (done ++ [rest.extract 0 m]) ++ pcs (N - (done ++ [rest.extract 0 m]).length) (rest.extract (m + 1) rest.size)) := ⟨by
        rw [HP.out, show N - done.length = (N - (done ++ [rest.extract 0 m]).length) + 1 by simp; omega, pcs, hm, Int.toNat_natCast]
        simp⟩
      have HM := Aside0.mk hm
      clear h1 h3 hm
      go_wp2_with fail
      refine (Tryd.strings_Index_one rest 47 _).mono ?_
      rintro e w2 ⟨rfl, rfl⟩
      rw [show Lib.indexByte rest.data.toList 47 = (m : Int) from HM.out]
      go_wp2_with fail
      refine ⟨⟨done ++ [rest.extract 0 m], rest.extract (m + 1) rest.size, by simp; omega, by simp, rfl, rfl, HC', HP', ?_⟩, ?_⟩
      · rw [ByteArray.size_extract]; omega
      · simp [intOf]; omega
    · have hlN : done.length = N := by omega
      have hset := fillRow_set (N + 1) done rest (by omega)
      have HP' : Aside0 (done ++ [rest] = pcs N s) := ⟨by rw [HP.out, show N - done.length = 0 by omega]; rfl⟩
      subst hlN
      go_wp2_with fail
      go_ret
      rw [HP'.out]
      exact ⟨rfl, rfl⟩

theorem split_calls (s : ByteArray) (w : World) (hs : s.size ≤ 1024) :
    Calls Tryd.prog 25 #[.string s, .string ⟨#[47]⟩] w fun e w' => e = .returned (.slice (some ⟨w.heap.size, 0, none⟩) (slashes s + 1) (slashes s + 1)) ∧ w' = w.alloc (.cells (fillRow (slashes s + 1) (pcs (slashes s) s)) 9) := by
  go_enter Tryd.func25, Tryd.ntmps25
  go_wp2_with fail
  refine (genSplit_calls s w hs).mono ?_
  rintro e w1 ⟨rfl, rfl⟩
  go_wp2_with fail
  go_ret
  exact ⟨rfl, rfl⟩
/-- The row that is full: own, and read. -/
theorem full_own (w : World) (l : List ByteArray) (hl : l.length ≤ 100000) (hn : l ≠ []) : (w.alloc (.cells (fillRow l.length l) 9)).ownsRow w.heap.size 9 1 (.slice (some ⟨w.heap.size, 0, none⟩) l.length l.length) l.length (l.map Value.string) := by
  refine ⟨by simp, .inr ⟨w.heap.size, l.length, fillRow l.length l, rfl, Nat.le_refl _, by show (w.heap.push _)[w.heap.size]? = _; simp, Nat.le_refl _, by unfold maxLen; omega, by rw [fillRow_size _ _ (Nat.le_refl _)]; omega, ?_⟩⟩
  simp only [fillRow, Nat.sub_self, List.replicate_zero, List.append_nil]
  rw [List.take_of_length_le (by simp)]
theorem full_R (w : World) (l : List ByteArray) (hl : l.length ≤ 100000) (hn : l ≠ []) : Kd.R Kd.string 9 (w.alloc (.cells (fillRow l.length l) 9)) w.heap.size (fun _ => True) (.slice (some ⟨w.heap.size, 0, none⟩) l.length l.length) l :=
  Kd.R_of_own (enc := Value.string) (h1 := fun _ => rfl) (full_own w l hl hn) (fun _ _ => trivial)
set_option maxHeartbeats 1600000 in
set_option maxRecDepth 100000 in
theorem clip_calls (A0 : Option Addr) (n : Nat) (w : World) (hn : n ≤ 9223372036854775807) :
    Calls Tryd.prog 27 #[.slice A0 n n] w fun e w' => e = .returned (.slice A0 n n) ∧ w' = w := by
  go_enter Tryd.func27, Tryd.ntmps27
  go_wp2_with fail
  go_ret
  exact ⟨rfl, rfl⟩

theorem checked_n (A0 : Option Addr) (n c : Nat) (L : List ByteArray) (W : World) (hn : L.length = n) (hr : Kd.C Kd.string W A0 n L) (hc : n ≤ c) (er : Int) (h : path_checked.f L = some er) :
    Calls Tryd.prog 26 #[.slice A0 n c] W fun e w' => e = .returned (.int .i64 er) ∧ Below W.heap.size W w' := by
  subst hn
  exact path_checked.calls A0 c L er W hr hc h
theorem full_C (w : World) (l : List ByteArray) (n : Nat) (hn : l.length = n) (hl : l.length ≤ 100000) (hne : l ≠ []) : Kd.C Kd.string (w.alloc (.cells (fillRow n l) 9)) (some ⟨w.heap.size, 0, none⟩) n l := by
  subst hn
  obtain ⟨A, c, e, _, hC⟩ := Kd.R_reads (full_R w l hl hne)
  injection e with e1 e2 e3
  subst e1
  exact hC
/-! ### path.Parse -/
def hasP (s : ByteArray) : Bool := Lib.hasPrefix s.data.toList [47]
def hasS (s : ByteArray) : Bool := Lib.hasSuffix s.data.toList [47]
def tailOf (s : ByteArray) : ByteArray := s.extract 1 s.size
def piecesOf (s : ByteArray) : List ByteArray := pcs (slashes (tailOf s)) (tailOf s)
def errOf (l : List ByteArray) : Int := if l.all nameB = true then (if l.length > 16 then 112 else 0) else 111
def path_Parse.f (a0 : ByteArray) : Option (List ByteArray × Int) :=
  some (if a0.size > 1024 then ([], 110)
  else if hasP a0 = false then ([], 110)
  else if (a0.toList == [47]) = true then ([], 0)
  else if hasS a0 = true then ([], 110)
  else if errOf (piecesOf a0) = 0 then (piecesOf a0, 0) else ([], errOf (piecesOf a0)))
/-- What a call of Parse comes to. -/
def ParsePost (w : World) (r1 : List ByteArray) (r2 : Int) (e : Ending) (w' : World) : Prop :=
  ∃ v0_ : Value, e = .returned (.tuple #[v0_, .int .i64 r2]) ∧ Kd.R Kd.string 9 w' w.heap.size (fun _ => True) v0_ r1 ∧ Below w.heap.size w w'
theorem ParsePost.none {w : World} {r2 : Int} {w' : World} (hb : Below w.heap.size w w') : ParsePost w [] r2 (.returned (.tuple #[.slice none 0 0, .int .i64 r2])) w' := ⟨_, rfl, Kd.R_nil _ _ _ _ _, hb⟩
set_option maxHeartbeats 1600000 in
set_option maxRecDepth 100000 in
theorem parse_early (a0 : ByteArray) (w : World) (hs : a0.size ≤ 9223372036854775807) (r2 : Int)
    (h : (decide (1024 < (a0.size : Int)) = true ∧ r2 = 110) ∨ (decide (1024 < (a0.size : Int)) = false ∧ hasP a0 = false ∧ r2 = 110) ∨ (decide (1024 < (a0.size : Int)) = false ∧ hasP a0 = true ∧ (a0.toList == [47]) = true ∧ r2 = 0) ∨
      (decide (1024 < (a0.size : Int)) = false ∧ hasP a0 = true ∧ (a0.toList == [47]) = false ∧ hasS a0 = true ∧ r2 = 110)) :
    Calls Tryd.prog 9 #[.string a0] w (ParsePost w [] r2) := by
  rcases h with ⟨h1, rfl⟩ | ⟨h1, h2, rfl⟩ | ⟨h1, h2, h3, rfl⟩ | ⟨h1, h2, h3, h4, rfl⟩
  · go_enter Tryd.func9, Tryd.ntmps9
    go_wp2_with fail
    go_ret2
    exact ParsePost.none (Below.refl _ _)
  · have H2 := Aside0.mk h2
    clear h2
    go_enter Tryd.func9, Tryd.ntmps9
    go_wp2_with fail
    refine (Tryd.strings_HasPrefix a0 ⟨#[47]⟩ w).mono ?_
    rintro e w1 ⟨rfl, rfl⟩
    rw [show Lib.hasPrefix a0.data.toList (⟨#[47]⟩ : ByteArray).data.toList = false from H2.out]
    go_wp2_with fail
    go_ret2
    exact ParsePost.none (Below.refl _ _)
  · have H2 := Aside0.mk h2
    clear h2
    go_enter Tryd.func9, Tryd.ntmps9
    go_wp2_with fail
    refine (Tryd.strings_HasPrefix a0 ⟨#[47]⟩ w).mono ?_
    rintro e w1 ⟨rfl, rfl⟩
    rw [show Lib.hasPrefix a0.data.toList (⟨#[47]⟩ : ByteArray).data.toList = true from H2.out]
    go_wp2_with fail
    go_ret2
    exact ParsePost.none (Below.refl _ _)
  · have H2 := Aside0.mk h2
    have H4 := Aside0.mk h4
    clear h2 h4
    go_enter Tryd.func9, Tryd.ntmps9
    go_wp2_with fail
    refine (Tryd.strings_HasPrefix a0 ⟨#[47]⟩ w).mono ?_
    rintro e w1 ⟨rfl, rfl⟩
    rw [show Lib.hasPrefix a0.data.toList (⟨#[47]⟩ : ByteArray).data.toList = true from H2.out]
    go_wp2_with fail
    refine (Tryd.strings_HasSuffix a0 ⟨#[47]⟩ _ hs).mono ?_
    rintro e w1 ⟨rfl, rfl⟩
    rw [show Lib.hasSuffix a0.data.toList (⟨#[47]⟩ : ByteArray).data.toList = true from H4.out]
    go_wp2_with fail
    go_ret2
    exact ParsePost.none (Below.refl _ _)
set_option maxHeartbeats 1600000 in
set_option maxRecDepth 100000 in
theorem parse_big (a0 : ByteArray) (w : World) (h1 : decide (1024 < (a0.size : Int)) = true) :
    Calls Tryd.prog 9 #[.string a0] w (ParsePost w [] 110) := by
  go_enter Tryd.func9, Tryd.ntmps9
  go_wp2_with fail
  go_ret2
  exact ParsePost.none (Below.refl _ _)
theorem hasP_size (s : ByteArray) (h : hasP s = true) : 1 ≤ s.size := by
  have h4 : s.data.toList.length = s.size := by simp
  by_cases e : s.size = 0
  · have : s.data.toList = [] := List.eq_nil_of_length_eq_zero (by omega)
    unfold hasP at h
    rw [this] at h
    exact absurd h (by decide)
  · omega
set_option maxHeartbeats 1600000 in
set_option maxRecDepth 100000 in
theorem parse_main (a0 : ByteArray) (w : World) (h1 : decide (1024 < (a0.size : Int)) = false) (h2 : hasP a0 = true) (h3 : (a0.toList == [47]) = false) (h4 : hasS a0 = false) (r1 : List ByteArray) (r2 : Int)
    (HR : Aside0 ((errOf (piecesOf a0) = 0 → r1 = piecesOf a0 ∧ r2 = 0) ∧ (errOf (piecesOf a0) ≠ 0 → r1 = [] ∧ r2 = errOf (piecesOf a0)))) :
    Calls Tryd.prog 9 #[.string a0] w (ParsePost w r1 r2) := by
  have hsz : a0.size ≤ 1024 := by simp at h1; omega
  have hp1 := hasP_size a0 h2
  have H2 := Aside0.mk h2
  have H4 := Aside0.mk h4
  clear h2 h4
  have htl : (tailOf a0).size ≤ 1024 := by unfold tailOf; rw [ByteArray.size_extract]; omega
  have hsl := slashes_le (tailOf a0)
  have hlen : (piecesOf a0).length = slashes (tailOf a0) + 1 := pcs_length _ _
  obtain ⟨n, hn⟩ : ∃ n, slashes (tailOf a0) + 1 = n := ⟨_, rfl⟩
  obtain ⟨L, hL⟩ : ∃ L, piecesOf a0 = L := ⟨_, rfl⟩
  have HSP := fun W => split_calls (tailOf a0) W htl
  rw [show pcs (slashes (tailOf a0)) (tailOf a0) = L from hL, hn] at HSP
  rw [hL] at hlen HR
  rw [hn] at hlen
  have hn5 : n ≤ 2000 := by omega
  have hne : L ≠ [] := by intro e; rw [e] at hlen; simp at hlen; omega
  have HF := fun W => full_R W L (by omega) hne
  rw [hlen] at HF
  have hcf := fun W => full_C W L n hlen (by omega) hne
  have HSP' := Aside0.mk HSP
  have HF' := Aside0.mk HF
  have HL' := Aside0.mk hlen
  have HCF := Aside0.mk hcf
  obtain ⟨er, her⟩ : ∃ er, errOf L = er := ⟨_, rfl⟩
  have HER := Aside0.mk her
  have HPC : Aside0 (path_checked.f L = some er) := ⟨by rw [← her]; rfl⟩
  clear HSP HF hlen hcf hn hL hsl htl her hne
  by_cases he0 : er = 0
  · have heb : (er != 0) = false := by simp [he0]
    have HE0 := Aside0.mk he0
    clear he0
    go_enter Tryd.func9, Tryd.ntmps9
    go_wp2_with fail
    refine (Tryd.strings_HasPrefix a0 ⟨#[47]⟩ w).mono ?_
    rintro e w1 ⟨rfl, rfl⟩
    rw [show Lib.hasPrefix a0.data.toList (⟨#[47]⟩ : ByteArray).data.toList = true from H2.out]
    go_wp2_with fail
    refine (Tryd.strings_HasSuffix a0 ⟨#[47]⟩ _ (by omega)).mono ?_
    rintro e w1 ⟨rfl, rfl⟩
    rw [show Lib.hasSuffix a0.data.toList (⟨#[47]⟩ : ByteArray).data.toList = false from H4.out]
    go_wp2_with fail
    refine (HSP'.out _).mono ?_
    rintro e w2 ⟨rfl, rfl⟩
    go_wp2_with fail
    refine (checked_n _ n n L _ HL'.out (HCF.out _) (Nat.le_refl _) er HPC.out).mono ?_
    rintro e w3 ⟨rfl, hb3⟩
    go_wp2_with fail
    refine (clip_calls _ n _ (by omega)).mono ?_
    rintro e w4 ⟨rfl, rfl⟩
    go_wp2_with fail
    go_ret2
    obtain ⟨rfl, rfl⟩ := HR.out.1 (by rw [HER.out, HE0.out])
    exact ⟨_, rfl, Kd.R_below (HF'.out _) hb3, below_then (below_alloc (Below.refl _ _) _) (by show w1.heap.size ≤ (w1.heap.push _).size; rw [Array.size_push]; omega) hb3⟩
  · have heb : (er != 0) = true := bne_iff_ne.2 he0
    have HE0 := Aside0.mk he0
    clear he0
    go_enter Tryd.func9, Tryd.ntmps9
    go_wp2_with fail
    refine (Tryd.strings_HasPrefix a0 ⟨#[47]⟩ w).mono ?_
    rintro e w1 ⟨rfl, rfl⟩
    rw [show Lib.hasPrefix a0.data.toList (⟨#[47]⟩ : ByteArray).data.toList = true from H2.out]
    go_wp2_with fail
    refine (Tryd.strings_HasSuffix a0 ⟨#[47]⟩ _ (by omega)).mono ?_
    rintro e w1 ⟨rfl, rfl⟩
    rw [show Lib.hasSuffix a0.data.toList (⟨#[47]⟩ : ByteArray).data.toList = false from H4.out]
    go_wp2_with fail
    refine (HSP'.out _).mono ?_
    rintro e w2 ⟨rfl, rfl⟩
    go_wp2_with fail
    refine (checked_n _ n n L _ HL'.out (HCF.out _) (Nat.le_refl _) er HPC.out).mono ?_
    rintro e w3 ⟨rfl, hb3⟩
    go_wp2_with fail
    go_ret2
    obtain ⟨rfl, rfl⟩ := HR.out.2 (by rw [HER.out]; exact HE0.out)
    rw [HER.out]
    exact ParsePost.none (below_then (below_alloc (Below.refl _ _) _) (by show w1.heap.size ≤ (w1.heap.push _).size; rw [Array.size_push]; omega) hb3)
theorem path_Parse.calls (a0 : ByteArray) (r1 : List ByteArray) (r2 : Int) (w : World) (h : path_Parse.f a0 = some (r1, r2)) :
    Calls Tryd.prog 9 #[.string a0] w fun e w' => ∃ v0_ : Value, e = .returned (.tuple #[v0_, .int .i64 r2]) ∧ Kd.R Kd.string 9 w' w.heap.size (fun _ => True) v0_ r1 ∧ Below w.heap.size w w' := by
  have h := Option.some.inj h
  show Calls _ _ _ _ (ParsePost w r1 r2)
  by_cases c1 : a0.size > 1024
  · rw [if_pos c1] at h
    cases h
    exact parse_big a0 w (by simp; omega)
  rw [if_neg c1] at h
  have d1 : decide (1024 < (a0.size : Int)) = false := by simp; omega
  by_cases c2 : hasP a0 = false
  · rw [if_pos c2] at h
    cases h
    exact parse_early a0 w (by omega) 110 (.inr (.inl ⟨d1, c2, rfl⟩))
  rw [if_neg c2] at h
  have c2' : hasP a0 = true := by simpa using c2
  by_cases c3 : (a0.toList == [47]) = true
  · rw [if_pos c3] at h
    cases h
    exact parse_early a0 w (by omega) 0 (.inr (.inr (.inl ⟨d1, c2', c3, rfl⟩)))
  rw [if_neg c3] at h
  have c3' : (a0.toList == [47]) = false := by simpa using c3
  by_cases c4 : hasS a0 = true
  · rw [if_pos c4] at h
    cases h
    exact parse_early a0 w (by omega) 110 (.inr (.inr (.inr ⟨d1, c2', c3', c4, rfl⟩)))
  rw [if_neg c4] at h
  have c4' : hasS a0 = false := by simpa using c4
  refine parse_main a0 w d1 c2' c3' c4' r1 r2 ⟨⟨fun e => ?_, fun e => ?_⟩⟩
  · rw [if_pos e] at h
    cases h
    exact ⟨rfl, rfl⟩
  · rw [if_neg e] at h
    cases h
    exact ⟨rfl, rfl⟩
end Go.Proofs.YtecfnngbomnnjaaDoor.G
