/- Plain laws of paths: what lies between slashes; Parse and Text are each other's reverse. -/
import Derived.Test.YtecfnngbomnnjaaDoorKitP
import Derived.Test.YtecfnngbomnnjaaDoorPAllx4
namespace Go.Proofs.YtecfnngbomnnjaaDoor.Kit
open Go.RowKit Go.Proofs.YtecfnngbomnnjaaDoor.PAll Go.Proofs.YtecfnngbomnnjaaDoor.G Go.Proofs.YtecfnngbomnnjaaDoorW.PrintWords Go.Proofs.YtecfnngbomnnjaaDoorW.PrintLast Go.Proofs.YtecfnngbomnnjaaDoorW.PrintMore
set_option linter.unusedVariables false
set_option linter.unusedSimpArgs false

/-- What lies between slashes. -/
def sp : List UInt8 → List (List UInt8)
  | [] => [[]]
  | c :: l => if c = 47 then [] :: sp l else match sp l with
    | [] => [[c]]
    | p :: ps => (c :: p) :: ps
theorem sp_ne (l : List UInt8) : sp l ≠ [] := by
  cases l with
  | nil => simp [sp]
  | cons c l =>
    unfold sp
    split
    · simp
    · split <;> simp
theorem sp_none : ∀ (l : List UInt8), (∀ c ∈ l, c ≠ 47) → sp l = [l]
  | [], _ => rfl
  | c :: l, h => by
    unfold sp
    rw [if_neg (h c List.mem_cons_self), sp_none l fun x hx => h x (List.mem_cons_of_mem _ hx)]
theorem sp_split : ∀ (a b : List UInt8), (∀ c ∈ a, c ≠ 47) → sp (a ++ 47 :: b) = a :: sp b
  | [], b, _ => by simp [sp]
  | c :: a, b, h => by
    rw [List.cons_append, sp, if_neg (h c List.mem_cons_self), sp_split a b fun x hx => h x (List.mem_cons_of_mem _ hx)]
def toB (l : List UInt8) : ByteArray := ⟨l.toArray⟩
theorem toB_list (s : ByteArray) : toB s.data.toList = s := by
  apply ByteArray.ext
  simp [toB]
theorem extract_toB (s : ByteArray) (a b : Nat) : s.extract a b = toB ((s.data.toList.drop a).take (b - a)) := by
  apply ByteArray.ext
  apply Array.ext'
  rw [ByteArray.data_extract, Array.toList_extract, List.extract_eq_take_drop]
  simp [toB]
/-! ### the program's pieces -/
theorem index_parts : ∀ (l : List UInt8) (c : UInt8), l.count c ≠ 0 → l = l.take (Lib.indexByte l c).toNat ++ c :: l.drop ((Lib.indexByte l c).toNat + 1) ∧ ∀ x ∈ l.take (Lib.indexByte l c).toNat, x ≠ c
  | [], _, h => absurd rfl h
  | b :: l, c, h => by
    unfold Lib.indexByte
    by_cases e : (b == c) = true
    · rw [if_pos e]
      have : b = c := by simpa using e
      subst this
      simp
    · rw [if_neg e]
      have hb : ¬ b = c := by simpa using e
      have hc : (b :: l).count c = l.count c := by simp [List.count_cons, hb]
      rw [hc] at h
      obtain ⟨h1, h2⟩ := index_parts l c h
      obtain ⟨g1, _, _⟩ := index_count l c h
      have hne : ¬ (Lib.indexByte l c == -1) = true := by
        intro hx
        have : Lib.indexByte l c = -1 := by simpa using hx
        omega
      rw [if_neg hne]
      have e1 : (Lib.indexByte l c + 1).toNat = (Lib.indexByte l c).toNat + 1 := by omega
      rw [e1, List.take_succ_cons, List.drop_succ_cons]
      refine ⟨by rw [List.cons_append, ← h1], fun x hx => ?_⟩
      rcases List.mem_cons.1 hx with rfl | hx
      · exact hb
      · exact h2 x hx
theorem pcs_sp : ∀ (n : Nat) (s : ByteArray), slashes s = n → pcs n s = (sp s.data.toList).map toB
  | 0, s, h => by
    have : ∀ c ∈ s.data.toList, c ≠ 47 := by
      intro c hc e
      subst e
      have := List.count_pos_iff.2 hc
      have h' : s.data.toList.count 47 = 0 := h
      omega
    rw [sp_none _ this]
    simp [pcs, toB_list]
  | n + 1, s, h => by
    have hne : s.data.toList.count 47 ≠ 0 := by
      have h' : s.data.toList.count 47 = n + 1 := h
      omega
    obtain ⟨h1, h2⟩ := index_parts s.data.toList 47 hne
    obtain ⟨g1, g2, g3⟩ := slash_facts s (by omega)
    have hsl : slashes (s.extract ((slashAt s).toNat + 1) s.size) = n := by omega
    have e1 : (s.extract ((slashAt s).toNat + 1) s.size).data.toList = s.data.toList.drop ((slashAt s).toNat + 1) := by
      rw [ByteArray.data_extract, Array.toList_extract, List.extract_eq_take_drop, List.take_of_length_le (by simp)]
    rw [pcs, pcs_sp n _ hsl, e1]
    have e2 : sp s.data.toList = s.data.toList.take (slashAt s).toNat :: sp (s.data.toList.drop ((slashAt s).toNat + 1)) := by
      have := sp_split (s.data.toList.take (slashAt s).toNat) (s.data.toList.drop ((slashAt s).toNat + 1)) h2
      rw [← this]
      exact congrArg sp h1
    rw [e2, List.map_cons, extract_toB]
    simp
theorem pieces_sp (s : ByteArray) : piecesOf s = (sp (s.data.toList.drop 1)).map toB := by
  unfold piecesOf
  rw [pcs_sp _ _ rfl]
  unfold tailOf
  rw [ByteArray.data_extract, Array.toList_extract, List.extract_eq_take_drop, List.take_of_length_le (by simp)]
/-! ### the document's Parse -/
theorem bt_get (s : ByteArray) (i : Nat) (h : i < s.size) : bt s i = 47 ↔ s.data.toList[i]? = some 47 := by
  have hl : i < s.data.toList.length := by simpa using h
  rw [← nth s i h, List.getElem?_eq_getElem hl]
  constructor
  · intro e
    have : (s[i]'h).toNat = (47 : UInt8).toNat := by
      have h47 : (47 : UInt8).toNat = 47 := rfl
      omega
    exact congrArg some (UInt8.toNat_inj.1 this)
  · intro e
    have : s[i]'h = 47 := Option.some.inj e
    rw [this]
    rfl
/-- What is answered of the pieces. -/
def fin (L : List ByteArray) : Option (List ByteArray × Int) := some (if errOf L = 0 then (L, 0) else ([], errOf L))
theorem parse_l0 (s : ByteArray) (hs : s.size ≤ 1024) (d : Nat) : ∀ (k i fr : Nat) (acc : List ByteArray), i + d = s.size → d + 5000 < k → fr ≤ i → acc.length + d ≤ 2000 → (∀ c ∈ (s.data.toList.drop fr).take (i - fr), c ≠ 47) →
    casketref11_Parse.l0 k s acc fr i = fin (acc ++ (sp (s.data.toList.drop fr)).map toB) := by
  have hl : s.data.toList.length = s.size := by simp
  induction d with
  | zero =>
    intro k i fr acc hi hk hf ha hn
    obtain ⟨k, rfl⟩ : ∃ q, k = q + 2 := ⟨k - 2, by omega⟩
    simp only [casketref11_Parse.l0]
    rw [if_pos (by omega), if_pos (by omega), if_pos (by omega), if_pos (by omega), if_pos (by omega), w_id (n := (i : Int) + 1) (by omega) (by omega), if_neg (by omega)]
    have e1 : (s.data.toList.drop fr).take (i - fr) = s.data.toList.drop fr := List.take_of_length_le (by rw [List.length_drop]; omega)
    rw [e1] at hn
    rw [sp_none _ hn, List.map_cons, List.map_nil, Int.toNat_natCast, Int.toNat_natCast, extract_toB, e1]
    rw [ref_names _ (by rw [List.length_append]; simp; omega) k (by rw [List.length_append]; simp; omega)]
    show (some (errOf _)).bind _ = _
    rw [Option.bind_some]
    unfold fin
    split <;> rfl
  | succ d ih =>
    intro k i fr acc hi hk hf ha hn
    obtain ⟨k, rfl⟩ : ∃ q, k = q + 1 := ⟨k - 1, by omega⟩
    simp only [casketref11_Parse.l0]
    rw [if_pos (by omega), if_neg (by omega), if_pos (by omega), if_pos (by omega), w_id (n := (i : Int) + 1) (by omega) (by omega), show (i : Int) + 1 = ((i + 1 : Nat) : Int) by omega]
    have hil : i < s.data.toList.length := by omega
    have e0 : s.data.toList.drop fr = (s.data.toList.drop fr).take (i - fr) ++ s.data.toList[i] :: s.data.toList.drop (i + 1) := by
      have h1 := (List.take_append_drop (i - fr) (s.data.toList.drop fr)).symm
      rw [List.drop_drop, show fr + (i - fr) = i by omega, List.drop_eq_getElem_cons hil] at h1
      exact h1
    by_cases hb : bt s i = 47
    · have hg := (bt_get s i (by omega)).1 hb
      rw [List.getElem?_eq_getElem hil] at hg
      have hg' : s.data.toList[i] = 47 := Option.some.inj hg
      rw [if_pos hb, if_pos (by omega), if_pos (by omega), if_pos (by omega), ih k (i + 1) (i + 1) _ (by omega) (by omega) (by omega) (by rw [List.length_append]; simp; omega) (by intro c hc; rw [Nat.sub_self] at hc; simp at hc)]
      rw [hg'] at e0
      rw [e0, sp_split _ _ hn, List.map_cons, Int.toNat_natCast, Int.toNat_natCast, extract_toB, List.append_assoc]
      rfl
    · have hg : s.data.toList[i] ≠ 47 := fun e => hb ((bt_get s i (by omega)).2 (by rw [List.getElem?_eq_getElem hil, e]))
      rw [if_neg hb]
      refine ih k (i + 1) fr acc (by omega) (by omega) (by omega) (by omega) fun c hc => ?_
      rw [show i + 1 - fr = (i - fr) + 1 by omega] at hc
      have hlt : i - fr < (s.data.toList.drop fr).length := by rw [List.length_drop]; omega
      rw [List.take_succ_eq_append_getElem hlt] at hc
      rcases List.mem_append.1 hc with hc | hc
      · exact hn c hc
      · rw [List.mem_singleton.1 hc, List.getElem_drop]
        have : fr + (i - fr) = i := by omega
        simp only [this]
        exact hg
theorem hasP_iff (s : ByteArray) (h : 1 ≤ s.size) : hasP s = true ↔ bt s 0 = 47 := by
  have hl : s.data.toList.length = s.size := by simp
  rw [show (0 : Int) = ((0 : Nat) : Int) by rfl, bt_get s 0 (by omega)]
  unfold hasP Lib.hasPrefix
  cases hs : s.data.toList with
  | nil => rw [hs] at hl; simp at hl; omega
  | cons c l => simp [List.isPrefixOf]; exact eq_comm
theorem hasS_iff (s : ByteArray) (h : 1 ≤ s.size) : hasS s = true ↔ bt s ((s.size - 1 : Nat) : Int) = 47 := by
  have hl : s.data.toList.length = s.size := by simp
  rw [bt_get s (s.size - 1) (by omega)]
  unfold hasS Lib.hasSuffix
  rw [List.isSuffixOf_iff_suffix]
  constructor
  · rintro ⟨t, ht⟩
    rw [← ht]
    have : s.size - 1 = t.length := by rw [← hl, ← ht]; simp
    rw [this]
    simp
  · intro e
    obtain ⟨hlt, e2⟩ := List.getElem?_eq_some_iff.1 e
    refine ⟨s.data.toList.take (s.size - 1), ?_⟩
    rw [← e2, ← List.take_succ_eq_append_getElem hlt, List.take_of_length_le (by omega)]
theorem ref_parse (s : ByteArray) (hz : s.size ≤ 140737488351232) (k : Nat) (hk : 20000 ≤ k) : casketref11_Parse.f k s = path_Parse.f s := by
  unfold casketref11_Parse.f path_Parse.f
  by_cases c1 : s.size > 1024
  · rw [if_neg (by omega), if_pos (by omega), if_pos c1]
  rw [if_neg c1]
  by_cases c0 : s.size < 1
  · have : hasP s = false := by
      cases h : hasP s with
      | false => rfl
      | true => exact absurd (hasP_size s h) (by omega)
    rw [if_pos (by omega), if_pos this]
  rw [if_neg (by omega), if_neg (by omega), if_pos (by omega)]
  by_cases c2 : bt s 0 = 47
  · have h2 := (hasP_iff s (by omega)).2 c2
    rw [if_pos c2, if_neg (show ¬ hasP s = false by rw [h2]; decide)]
    by_cases c3 : s.toList = [47]
    · rw [if_pos c3, if_pos (by rw [c3]; rfl)]
    have c3' : ¬ (s.toList == [47]) = true := by simpa using c3
    rw [if_neg c3, if_neg c3', w_id (n := (s.size : Int) - 1) (by omega) (by omega), if_pos (by omega), if_pos (by omega), show (s.size : Int) - 1 = ((s.size - 1 : Nat) : Int) by omega]
    by_cases c4 : bt s ((s.size - 1 : Nat) : Int) = 47
    · rw [if_pos c4, if_pos ((hasS_iff s (by omega)).2 c4)]
    rw [if_neg c4, if_neg fun h => c4 ((hasS_iff s (by omega)).1 h)]
    have := parse_l0 s (by omega) (s.size - 1) k 1 1 [] (by omega) (by omega) (Nat.le_refl _) (by simp; omega) (by intro c hc; rw [Nat.sub_self] at hc; simp at hc)
    rw [List.nil_append, ← pieces_sp] at this
    exact this
  · have h2 : hasP s = false := by
      cases h : hasP s with
      | false => rfl
      | true => exact absurd ((hasP_iff s (by omega)).1 h) c2
    rw [if_neg c2, if_pos h2]
/-! ### there and back -/
theorem cat_sp : ∀ (l : List UInt8), cat ((sp l).map toB) = 47 :: l
  | [] => by simp [sp, cat, toB]
  | c :: l => by
    have ih := cat_sp l
    unfold sp
    split
    · rename_i h
      subst h
      simp [cat, toB, ih]
    · split
      · rename_i h
        exact absurd h (sp_ne l)
      · rename_i p ps h
        rw [h] at ih
        simp only [List.map_cons, cat, toB] at ih ⊢
        simp only [List.cons.injEq, true_and] at ih
        simp [ih]
theorem sp_cat (x : ByteArray) (r : List ByteArray) (h : ∀ y ∈ x :: r, ∀ c ∈ y.data.toList, c ≠ 47) : (sp ((cat (x :: r)).drop 1)).map toB = x :: r := by
  induction r generalizing x with
  | nil =>
    simp only [cat, List.drop_succ_cons, List.drop_zero, List.append_nil]
    rw [sp_none _ (h x List.mem_cons_self)]
    simp [toB_list]
  | cons y r ih =>
    have ih := ih y fun z hz => h z (List.mem_cons_of_mem _ hz)
    have e : (cat (x :: y :: r)).drop 1 = x.data.toList ++ 47 :: (cat (y :: r)).drop 1 := by
      simp [cat]
    rw [e, sp_split _ _ (h x List.mem_cons_self), List.map_cons, ih, toB_list]
theorem name_bytes (s : ByteArray) (h : nameB s = true) : (∀ c ∈ s.data.toList, c ≠ 47) ∧ 1 ≤ s.size ∧ allGood s = true := by
  unfold nameB at h
  simp only [Bool.and_eq_true, decide_eq_true_eq] at h
  refine ⟨fun c hc e => ?_, h.1.1.1.1, h.2⟩
  subst e
  obtain ⟨i, hi, e⟩ := List.getElem_of_mem hc
  have hi' : i < s.size := by simpa using hi
  have hg := (goodB_iff _).1 ((allGood_iff s).1 h.2 i hi')
  have : bt s i = 47 := (bt_get s i hi').2 (by rw [List.getElem?_eq_getElem hi, e])
  omega
theorem err0 (L : List ByteArray) (h : errOf L = 0) : L.all nameB = true ∧ L.length ≤ 16 := by
  unfold errOf at h
  split at h
  · rename_i h1
    split at h
    · cases h
    · rename_i h2
      exact ⟨h1, by omega⟩
  · cases h
theorem checked_err (L : List ByteArray) : path_checked.f L = some (errOf L) := rfl
theorem text_of (L : List ByteArray) : path_Text.f L = some (if errOf L = 0 then (textS L, 0) else (⟨#[]⟩, errOf L)) := by
  rw [path_text, checked_err]
  by_cases h : errOf L = 0
  · rw [h, if_pos rfl, if_pos rfl]
  · rw [if_neg h, if_neg fun e => h (Option.some.inj e)]
    rfl
/-- What was taken is Text of its names. -/
theorem parse_text (s : ByteArray) (L : List ByteArray) (h : path_Parse.f s = some (L, 0)) : errOf L = 0 ∧ textS L = s ∧ s.size ≤ 1024 := by
  have h := Option.some.inj h
  by_cases c1 : s.size > 1024
  · rw [if_pos c1] at h; cases h
  rw [if_neg c1] at h
  by_cases c2 : hasP s = false
  · rw [if_pos c2] at h; cases h
  rw [if_neg c2] at h
  have c2' : hasP s = true := by simpa using c2
  have h1 := hasP_size s c2'
  by_cases c3 : (s.toList == [47]) = true
  · rw [if_pos c3] at h
    cases h
    refine ⟨rfl, ?_, by omega⟩
    have : s.toList = [47] := by simpa using c3
    rw [ByteArray.toList_eq] at this
    unfold textS
    rw [if_pos List.length_nil]
    apply ByteArray.ext
    apply Array.ext'
    rw [this]
  rw [if_neg c3] at h
  by_cases c4 : hasS s = true
  · rw [if_pos c4] at h; cases h
  rw [if_neg c4] at h
  by_cases c5 : errOf (piecesOf s) = 0
  · rw [if_pos c5] at h
    have e : piecesOf s = L := congrArg Prod.fst h
    subst e
    refine ⟨c5, ?_, by omega⟩
    have hl : s.data.toList.length = s.size := by simp
    unfold textS
    have hne : ¬ (piecesOf s).length = 0 := by
      unfold piecesOf
      rw [pcs_length]
      omega
    rw [if_neg hne, pieces_sp, cat_sp]
    have hb := (hasP_iff s h1).1 c2'
    rw [show (0 : Int) = ((0 : Nat) : Int) by rfl, bt_get s 0 (by omega)] at hb
    apply ByteArray.ext
    apply Array.ext'
    cases hs : s.data.toList with
    | nil => rw [hs] at hl; simp at hl; omega
    | cons c l =>
      rw [hs] at hb
      have : c = 47 := by simpa using hb
      subst this
      simp
  · rw [if_neg c5] at h
    have e2 : errOf (piecesOf s) = 0 := congrArg Prod.snd h
    exact absurd e2 c5
/-- Names that are taken are Parse of their text. -/
theorem text_parse (L : List ByteArray) (h : errOf L = 0) : path_Parse.f (textS L) = some (L, 0) := by
  obtain ⟨ha, h16⟩ := err0 L h
  cases L with
  | nil => decide +kernel
  | cons x r =>
    have hall : ∀ y ∈ x :: r, nameB y = true := fun y hy => List.all_eq_true.1 ha y hy
    have hsz := cat_len (x :: r) fun y hy => name_size y (hall y hy)
    have et : (textS (x :: r)).data.toList = cat (x :: r) := by
      unfold textS
      rw [if_neg (by simp)]
    have hts : (textS (x :: r)).size = (cat (x :: r)).length := by
      rw [← et]; simp
    have hx := name_bytes x (hall x List.mem_cons_self)
    have hxl : x.data.toList.length = x.size := by simp
    have hcl : 2 ≤ (cat (x :: r)).length := by simp only [cat, List.length_cons, List.length_append]; omega
    have hP : hasP (textS (x :: r)) = true := by
      unfold hasP Lib.hasPrefix
      rw [et]
      simp [cat, List.isPrefixOf]
    have hpc : piecesOf (textS (x :: r)) = x :: r := by
      rw [pieces_sp, et]
      exact sp_cat x r fun y hy => (name_bytes y (hall y hy)).1
    have hS : hasS (textS (x :: r)) = false := by
      cases e : hasS (textS (x :: r)) with
      | false => rfl
      | true =>
        exfalso
        unfold hasS Lib.hasSuffix at e
        rw [List.isSuffixOf_iff_suffix, et] at e
        have key : ∀ (l : List ByteArray), l ≠ [] → (∀ y ∈ l, nameB y = true) → ¬ [47] <:+ cat l := by
          intro l
          induction l with
          | nil => intro h _; exact absurd rfl h
          | cons y q ih =>
            intro _ hq hc
            have hy := name_bytes y (hq y List.mem_cons_self)
            have hyl : y.data.toList.length = y.size := by simp
            cases q with
            | nil =>
              simp only [cat, List.append_nil] at hc
              obtain ⟨t, ht⟩ := hc
              have hmem : (47 : UInt8) ∈ y.data.toList := by
                have hne : y.data.toList ≠ [] := by intro e0; rw [e0] at hyl; simp at hyl; omega
                have hl1 : (47 :: y.data.toList).getLast? = some 47 := by rw [← ht]; simp
                rw [List.getLast?_eq_some_getLast (by simp)] at hl1
                have hl2 := Option.some.inj hl1
                rw [List.getLast_cons hne] at hl2
                rw [← hl2]
                exact List.getLast_mem hne
              exact hy.1 47 hmem rfl
            | cons z q =>
              refine ih (by simp) (fun w hw => hq w (List.mem_cons_of_mem _ hw)) ?_
              have e1 : cat (y :: z :: q) = (47 :: y.data.toList) ++ cat (z :: q) := by simp [cat]
              rw [e1] at hc
              have hl : ([47] : List UInt8).length ≤ (cat (z :: q)).length := by simp [cat]
              exact List.suffix_of_suffix_length_le hc (List.suffix_append _ _) hl
        exact key (x :: r) (by simp) hall e
    unfold path_Parse.f
    rw [if_neg (by rw [hts]; simp only [List.length_cons] at hsz h16; omega), if_neg (by rw [hP]; decide)]
    have h3 : ¬ ((textS (x :: r)).toList == [47]) = true := by
      intro e
      have : (textS (x :: r)).toList = [47] := by simpa using e
      rw [ByteArray.toList_eq, et] at this
      rw [this] at hcl
      simp at hcl
    rw [if_neg h3, if_neg (by rw [hS]; decide), hpc, if_pos h]
theorem parse_err (s : ByteArray) (L : List ByteArray) (e : Int) (h : path_Parse.f s = some (L, e)) (he : e ≠ 0) : L = [] := by
  have h := Option.some.inj h
  repeat' split at h
  all_goals (first | (injection h with h1 h2; first | exact h1.symm | exact absurd h2.symm he))
theorem works_f (k : Nat) (hk : 10 ≤ k) : casketlaw11_works.f k = some true := by
  unfold casketlaw11_works.f
  have h0 : errOf [(⟨#[97]⟩ : ByteArray), (⟨#[98, 46, 99]⟩ : ByteArray)] = 0 := by decide +kernel
  have ht : textS [(⟨#[97]⟩ : ByteArray), (⟨#[98, 46, 99]⟩ : ByteArray)] = (⟨#[47, 97, 47, 98, 46, 99]⟩ : ByteArray) := by decide +kernel
  have hp := text_parse _ h0
  rw [ht] at hp
  rw [hp, Option.bind_some, text_of, h0, if_pos rfl, ht, Option.bind_some]
  simp only [casketlaw11_num.f, Option.bind_some, if_true]
  rw [same_f _ _ (by simp) k (by simp; omega), decide_eq_true rfl, Option.bind_some, if_pos rfl]
  decide +kernel
end Go.Proofs.YtecfnngbomnnjaaDoor.Kit
