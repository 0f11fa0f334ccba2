/- slices.Index and path.Map, walked by hand: contracts for the printed callers. -/
import Derived.Test.YtecfnngbomnnjaaDoorGParse
namespace Go.Proofs.YtecfnngbomnnjaaDoor.G
open Go.RowKit Go.Proofs.YtecfnngbomnnjaaDoorW.PrintWords Go.Proofs.YtecfnngbomnnjaaDoorW.PrintLast Go.Proofs.YtecfnngbomnnjaaDoorW.PrintMore
set_option linter.unusedVariables false
set_option linter.unusedSimpArgs false

/-- Where a text stands first; -1: nowhere. -/
def idx : List ByteArray → ByteArray → Int
  | [], _ => -1
  | x :: r, s => if x = s then 0 else if idx r s = -1 then -1 else idx r s + 1
theorem idx_ge : ∀ (l : List ByteArray) (s : ByteArray), -1 ≤ idx l s ∧ idx l s < l.length
  | [], _ => by simp [idx]
  | x :: r, s => by
    have := idx_ge r s
    unfold idx
    simp only [List.length_cons]
    split
    · omega
    · split <;> omega
theorem idx_none : ∀ (l : List ByteArray) (s : ByteArray), (∀ j (h : j < l.length), l[j] ≠ s) → idx l s = -1
  | [], _, _ => rfl
  | x :: r, s, h => by
    have h0 : ¬ x = s := h 0 (by simp)
    unfold idx
    rw [if_neg h0, if_pos (idx_none r s fun j hj => by
      have := h (j + 1) (by simpa using hj)
      simpa using this)]
theorem idx_at : ∀ (l : List ByteArray) (s : ByteArray) (k : Nat) (hk : k < l.length), l[k] = s → (∀ j (h : j < l.length), j < k → l[j] ≠ s) → idx l s = k
  | [], _, k, hk, _, _ => by simp at hk
  | x :: r, s, 0, _, h, _ => by
    unfold idx
    rw [if_pos (by simpa using h)]
    rfl
  | x :: r, s, k + 1, hk, h, hn => by
    have h1 := idx_at r s k (by simpa using hk) (by simpa using h) fun j hj hjk => by
      have := hn (j + 1) (by simpa using hj) (by omega)
      simpa using this
    have h0 : ¬ x = s := hn 0 (by simp) (by omega)
    unfold idx
    rw [if_neg h0, h1, if_neg (by omega)]
    omega
theorem str_eq (a b : ByteArray) : (a.toList == b.toList) = decide (a = b) := by
  by_cases h : a = b
  · subst h; simp
  · rw [decide_eq_false h]
    rw [ByteArray.toList_eq, ByteArray.toList_eq]
    exact beq_eq_false_iff_ne.2 fun hc => h (ByteArray.ext (Array.ext' hc))
set_option maxHeartbeats 1600000 in
set_option maxRecDepth 100000 in
theorem index_calls (A0 : Option Addr) (c0 n : Nat) (l0 : List ByteArray) (s : ByteArray) (w : World) (hr0 : Kd.C Kd.string w A0 n l0) :
    Calls Tryd.prog 32 #[.slice A0 n c0, .string s] w fun e w' => e = .returned (.int .i64 (idx l0 s)) ∧ Drawn0 w w' := by
  obtain rfl : l0.length = n := hr0.1
  have hmax := hr0.2.1
  have HR0 := Aside0.mk hr0
  clear hr0
  go_enter Tryd.func32, Tryd.ntmps32
  go_wp2_with fail
  go_loopw [8] (fun v8 w' => ∃ k : Nat, k ≤ l0.length ∧ v8 = .int .i64 k ∧ Drawn0 w w' ∧ Aside0 (∀ j (hj : j < l0.length), j < k → l0[j]'hj ≠ s)) (fun v8 _ => l0.length - (intOf v8).toNat)
  case atStart => exact ⟨0, Nat.zero_le _, rfl, Drawn0.refl _, ⟨fun j _ h => absurd h (by omega)⟩⟩
  case round =>
    obtain ⟨k, hk, rfl, ⟨nd, rfl⟩, HZ⟩ := hrel
    by_cases hlt : k < l0.length
    · obtain ⟨ad, rfl, hc⟩ := C_str (Kd.C_drewN HR0.out nd) k hlt
      obtain ⟨b, hb⟩ : ∃ b, (s.toList == (l0[k]'hlt).toList) = b := ⟨_, rfl⟩
      have HB := Aside0.mk hb
      cases b
      · have hne : l0[k]'hlt ≠ s := fun e => by rw [str_eq, e] at hb; simp at hb
        have HE := Aside0.mk hne
        clear hne
        go_wp2_with fail
        refine ⟨⟨k + 1, by omega, by go_num, (Drawn0.refl _).step nd, ⟨fun j hj hjk => ?_⟩⟩, by simp [intOf]; omega⟩
        by_cases e : j = k
        · subst e; exact HE.out
        · exact HZ.out j hj (by omega)
      · have he : l0[k]'hlt = s := by rw [str_eq] at hb; exact (of_decide_eq_true hb).symm
        have HI : Aside0 (idx l0 s = k) := ⟨idx_at l0 s k hlt he HZ.out⟩
        clear he
        go_wp2_with fail
        go_ret
        rw [HI.out]
        exact ⟨rfl, (Drawn0.refl _).step nd⟩
    · have HI : Aside0 (idx l0 s = -1) := ⟨idx_none l0 s fun j hj => HZ.out j hj (by omega)⟩
      go_wp2_with fail
      go_ret
      rw [HI.out]
      exact ⟨rfl, (Drawn0.refl _).step nd⟩
/-- A name by a table. -/
def changed (l1 l2 : List ByteArray) (s : ByteArray) : ByteArray := if 0 ≤ idx l1 s then l2.getD (idx l1 s).toNat ByteArray.empty else s
set_option maxHeartbeats 1600000 in
set_option maxRecDepth 100000 in
theorem map1_calls (s : ByteArray) (g1 g2 : Nat) (A1 : Option Addr) (c1 : Nat) (l1 : List ByteArray) (A2 : Option Addr) (c2 : Nat) (l2 : List ByteArray) (n : Nat) (w : World)
    (hb1 : w.cell? ⟨g1, 0, none⟩ = some (.slice A1 n c1)) (hb2 : w.cell? ⟨g2, 0, none⟩ = some (.slice A2 n c2)) (hr1 : Kd.C Kd.string w A1 n l1) (hr2 : Kd.C Kd.string w A2 n l2) :
    Calls Tryd.prog 31 #[.string s, .pointer (some ⟨g1, 0, none⟩), .pointer (some ⟨g2, 0, none⟩)] w fun e w' => e = .returned (.string (changed l1 l2 s)) ∧ Drawn0 w w' := by
  have h1 := hr1.1
  have h2 := hr2.1
  have hge := idx_ge l1 s
  have HR1 := Aside0.mk hr1
  have HR2 := Aside0.mk hr2
  clear hr1 hr2
  obtain ⟨i, hi⟩ : ∃ i, idx l1 s = i := ⟨_, rfl⟩
  have HI := Aside0.mk hi
  rw [hi] at hge
  clear hi
  by_cases hp : 0 ≤ i
  · obtain ⟨k, rfl⟩ := Int.eq_ofNat_of_zero_le hp
    have hk : k < l2.length := by omega
    obtain ⟨ad, rfl, hc⟩ := C_str HR2.out k hk
    have hkn : k < n := by omega
    have HC := Aside0.mk hc
    have H1 := Aside0.mk h1
    have H2 := Aside0.mk h2
    clear hc h1 h2
    go_enter Tryd.func31, Tryd.ntmps31
    go_wp2_with fail
    refine (index_calls A1 c1 n l1 s w HR1.out).mono ?_
    rintro e w1 ⟨rfl, ⟨nd, rfl⟩⟩
    rw [HI.out]
    have hc := HC.out
    go_wp2_with fail
    go_ret
    refine ⟨?_, (Drawn0.refl _).step nd⟩
    unfold changed
    rw [HI.out, if_pos hp, Int.toNat_natCast, List.getD_eq_getElem?_getD, List.getElem?_eq_getElem hk]
    rfl
  · have hd : decide (0 ≤ i) = false := by simpa using hp
    have H1 := Aside0.mk h1
    have H2 := Aside0.mk h2
    clear h1 h2
    go_enter Tryd.func31, Tryd.ntmps31
    go_wp2_with fail
    refine (index_calls A1 c1 n l1 s w HR1.out).mono ?_
    rintro e w1 ⟨rfl, ⟨nd, rfl⟩⟩
    rw [HI.out]
    go_wp2_with fail
    go_ret
    refine ⟨?_, (Drawn0.refl _).step nd⟩
    unfold changed
    rw [HI.out, if_neg (by omega)]
    rfl
set_option maxHeartbeats 1600000 in
set_option maxRecDepth 100000 in
theorem mapped_calls (A0 : Option Addr) (c0 : Nat) (l0 : List ByteArray) (n0 : Nat) (g1 g2 : Nat) (A1 : Option Addr) (c1 : Nat) (l1 : List ByteArray) (A2 : Option Addr) (c2 : Nat) (l2 : List ByteArray) (n : Nat) (w : World)
    (hr0 : Kd.C Kd.string w A0 n0 l0) (hn0 : n0 ≤ 100000) (hb1 : w.cell? ⟨g1, 0, none⟩ = some (.slice A1 n c1)) (hb2 : w.cell? ⟨g2, 0, none⟩ = some (.slice A2 n c2)) (hr1 : Kd.C Kd.string w A1 n l1) (hr2 : Kd.C Kd.string w A2 n l2) :
    Calls Tryd.prog 30 #[.slice A0 n0 c0, .func (.func 31) #[] #[.pointer (some ⟨g1, 0, none⟩), .pointer (some ⟨g2, 0, none⟩)]] w fun e w' =>
      e = .returned (.slice (some ⟨w.heap.size, 0, none⟩) n0 n0) ∧ ∃ q, w' = (w.alloc (.cells (fillRow n0 (l0.map (changed l1 l2))) 9)).drewN q := by
  obtain rfl : l0.length = n0 := hr0.1
  have hmk := make_strs l0.length (l0.length : Int) rfl hn0
  have HR0 := Aside0.mk hr0
  have HR1 := Aside0.mk hr1
  have HR2 := Aside0.mk hr2
  have HB1 := Aside0.mk hb1
  have HB2 := Aside0.mk hb2
  clear hr0 hr1 hr2 hb1 hb2
  go_enter Tryd.func30, Tryd.ntmps30
  go_wp2_with fail
  clear hmk
  go_loopw [13] (fun v13 wr => ∃ (k q : Nat), k ≤ l0.length ∧ v13 = .int .i64 k ∧ wr = (w.alloc (.cells (fillRow l0.length ((l0.take k).map (changed l1 l2))) 9)).drewN q) (fun v13 _ => l0.length - (intOf v13).toNat)
  case atStart => exact ⟨0, 0, Nat.zero_le _, rfl, rfl⟩
  case round =>
    obtain ⟨k, q, hk, rfl, rfl⟩ := hrel
    by_cases hlt : k < l0.length
    · have hbel : Below w.heap.size w ((w.alloc (.cells (fillRow l0.length ((l0.take k).map (changed l1 l2))) 9)).drewN q) := pw_below_drewN (below_alloc (Below.refl _ _) _) q
      obtain ⟨ad, rfl, hc⟩ := C_str (Kd.C_below HR0.out hbel) k hlt
      have hlen : ((l0.take k).map (changed l1 l2)).length = k := by simp; omega
      have hset := fillRow_set l0.length ((l0.take k).map (changed l1 l2)) (changed l1 l2 (l0[k]'hlt)) (by omega)
      rw [hlen] at hset
      have hsz : (fillRow l0.length ((l0.take k).map (changed l1 l2))).size = l0.length := fillRow_size _ _ (by omega)
      have HS := Aside0.mk hset
      have HBL := Aside0.mk hbel
      clear hlen hset hbel
      generalize hR : fillRow l0.length ((l0.take k).map (changed l1 l2)) = R at *
      have HRR := Aside0.mk hR
      clear hR
      go_wp2_with fail
      refine (map1_calls _ g1 g2 A1 c1 l1 A2 c2 l2 n _ (pw_cell_below HBL.out HB1.out) (pw_cell_below HBL.out HB2.out) (Kd.C_below HR1.out HBL.out) (Kd.C_below HR2.out HBL.out)).mono ?_
      rintro e w2 ⟨rfl, ⟨nd, rfl⟩⟩
      go_wp2_with fail
      refine ⟨⟨k + 1, q + nd, by omega, by go_num, ?_⟩, by simp [intOf]; omega⟩
      have e1 : ∀ (W : World) (m : Nat) (a : Addr) (v : Value), (W.drewN m).setCell a v = (W.setCell a v).drewN m := fun W m a v => rfl
      rw [e1, World.setCell_alloc_new, HS.out, List.take_add_one, List.getElem?_eq_getElem hlt, List.map_append]
      rfl
    · have hkl : k = l0.length := by omega
      subst hkl
      go_wp2_with fail
      go_ret
      exact ⟨rfl, q, rfl⟩
/-! ### path.Text -/
def path_Text.f (l0 : List ByteArray) : Option (ByteArray × Int) := (path_checked.f l0).bind fun t122 => (if t122 = 0 then ((strings_Join.f l0 (⟨#[47]⟩ : ByteArray)).bind fun t123 => (if 1 + t123.size ≤ 9223372036854775807 then (some ((⟨#[47]⟩ : ByteArray) ++ t123, 0)) else (none))) else (some ((⟨#[]⟩ : ByteArray), t122)))
set_option maxHeartbeats 1600000 in
set_option maxRecDepth 100000 in
theorem path_Text.calls (A0 : Option Addr) (c0 : Nat) (l0 : List ByteArray) (r1 : ByteArray) (r2 : Int) (w : World) (hr0 : Kd.C Kd.string w A0 l0.length l0) (hc0 : l0.length ≤ c0) (h : path_Text.f l0 = some (r1, r2)) :
    Calls Tryd.prog 13 #[.slice A0 l0.length c0] w fun e w' => e = .returned (.tuple #[.string r1, .int .i64 r2]) ∧ Below w.heap.size w w' := by
  unfold path_Text.f at h
  obtain ⟨t, ht, h⟩ := Option.bind_eq_some_iff.mp h
  have HR0 := Aside0.mk hr0
  have HC0 := Aside0.mk hc0
  have HT := Aside0.mk ht
  clear hr0 hc0 ht
  by_cases h0 : t = 0
  · rw [if_pos h0] at h
    obtain ⟨u, hu, h⟩ := Option.bind_eq_some_iff.mp h
    have HU := Aside0.mk hu
    clear hu
    by_cases h1 : 1 + u.size ≤ 9223372036854775807
    · rw [if_pos h1] at h
      simp only [Option.some.injEq, Prod.mk.injEq] at h
      obtain ⟨rfl, rfl⟩ := h
      subst h0
      go_enter Tryd.func13, Tryd.ntmps13
      go_wp2_with fail
      refine (path_checked.calls _ _ l0 0 _ HR0.out HC0.out HT.out).mono ?_
      rintro e w1 ⟨rfl, hb1⟩
      go_wp2_with fail
      refine (strings_Join.calls _ _ l0 ⟨#[47]⟩ u _ (Kd.C_below HR0.out hb1) HC0.out HU.out).mono ?_
      rintro e w2 ⟨rfl, hb2⟩
      go_wp2_with fail
      go_ret2
      exact ⟨rfl, below_step hb1 hb2⟩
    · rw [if_neg h1] at h
      exact absurd h (by simp)
  · rw [if_neg h0] at h
    simp only [Option.some.injEq, Prod.mk.injEq] at h
    obtain ⟨rfl, rfl⟩ := h
    have hb : (t != 0) = true := bne_iff_ne.mpr h0
    clear h0
    go_enter Tryd.func13, Tryd.ntmps13
    go_wp2_with fail
    refine (path_checked.calls _ _ l0 t _ HR0.out HC0.out HT.out).mono ?_
    rintro e w1 ⟨rfl, hb1⟩
    go_wp2_with fail
    go_ret2
    exact ⟨rfl, hb1⟩
/-! ### path.Map -/
theorem full_C0 (w : World) (l : List ByteArray) (n : Nat) (hn : l.length = n) (hl : l.length ≤ 100000) : Kd.C Kd.string (w.alloc (.cells (fillRow n l) 9)) (some ⟨w.heap.size, 0, none⟩) n l := by
  by_cases h : l = []
  · subst h
    subst hn
    exact ⟨rfl, by simp, fun h => absurd h (Nat.lt_irrefl 0)⟩
  · exact full_C w l n hn hl h
theorem text_n (A0 : Option Addr) (n c : Nat) (L : List ByteArray) (r1 : ByteArray) (r2 : Int) (W : World) (hn : L.length = n) (hr : Kd.C Kd.string W A0 n L) (hc : n ≤ c) (h : path_Text.f L = some (r1, r2)) :
    Calls Tryd.prog 13 #[.slice A0 n c] W fun e w' => e = .returned (.tuple #[.string r1, .int .i64 r2]) ∧ Below W.heap.size W w' := by
  subst hn
  exact path_Text.calls A0 c L r1 r2 W hr hc h
def path_Map.f (a0 : ByteArray) (l1 l2 : List ByteArray) : Option (ByteArray × Int) := (path_Parse.f a0).bind fun t => if t.2 = 0 then (if l1.length = l2.length then path_Text.f (t.1.map (changed l1 l2)) else some (⟨#[]⟩, 1)) else some (⟨#[]⟩, t.2)
theorem parse_len (a0 : ByteArray) (t1 : List ByteArray) (t2 : Int) (h : path_Parse.f a0 = some (t1, t2)) : t1.length ≤ 16 := by
  unfold path_Parse.f at h
  simp only [Option.some.injEq] at h
  by_cases h5 : errOf (piecesOf a0) = 0
  · have : (piecesOf a0).length ≤ 16 := by
      unfold errOf at h5
      split at h5
      · split at h5
        · omega
        · omega
      · omega
    rw [if_pos h5] at h
    repeat' split at h
    all_goals
      injection h with h1 h2
      subst h1
      simp
      try exact this
  · rw [if_neg h5] at h
    repeat' split at h
    all_goals
      injection h with h1 h2
      subst h1
      simp
set_option maxHeartbeats 1600000 in
set_option maxRecDepth 100000 in
theorem path_Map.calls (a0 : ByteArray) (A1 : Option Addr) (c1 : Nat) (l1 : List ByteArray) (A2 : Option Addr) (c2 : Nat) (l2 : List ByteArray) (r1 : ByteArray) (r2 : Int) (w : World) (hr1 : Kd.C Kd.string w A1 l1.length l1) (hc1 : l1.length ≤ c1) (hr2 : Kd.C Kd.string w A2 l2.length l2) (hc2 : l2.length ≤ c2) (h : path_Map.f a0 l1 l2 = some (r1, r2)) :
    Calls Tryd.prog 18 #[.string a0, .slice A1 l1.length c1, .slice A2 l2.length c2] w fun e w' => e = .returned (.tuple #[.string r1, .int .i64 r2]) ∧ Below w.heap.size w w' := by
  unfold path_Map.f at h
  obtain ⟨⟨t1, t2⟩, ht, h⟩ := Option.bind_eq_some_iff.mp h
  have hlen := parse_len a0 t1 t2 ht
  have HR1 := Aside0.mk hr1
  have HC1 := Aside0.mk hc1
  have HR2 := Aside0.mk hr2
  have HC2 := Aside0.mk hc2
  have HT := Aside0.mk ht
  clear hr1 hc1 hr2 hc2 ht
  simp only at h
  by_cases h0 : t2 = 0
  · rw [if_pos h0] at h
    subst h0
    by_cases h1 : l1.length = l2.length
    · rw [if_pos h1] at h
      have HH := Aside0.mk h
      clear h
      obtain ⟨n, hn⟩ : ∃ n, l2.length = n := ⟨_, rfl⟩
      rw [hn] at h1 HR2 HC2
      rw [h1] at HR1 HC1
      rw [h1, hn]
      clear h1 hn
      go_enter Tryd.func18, Tryd.ntmps18
      go_wp2_with fail
      refine (path_Parse.calls a0 t1 0 _ HT.out).mono ?_
      rintro e w1 ⟨v, rfl, ho, hb1⟩
      obtain ⟨A, c, rfl⟩ := Kd.R_slice ho
      have hg1 : w1.cell? ⟨w.heap.size, 0, none⟩ = some (.slice A1 n c1) := pw_cell_below hb1 (by simp [go_sem])
      have hg2 : w1.cell? ⟨w.heap.size + 1, 0, none⟩ = some (.slice A2 n c2) := pw_cell_below hb1 (by simp [go_sem])
      have HO := Aside0.mk ho
      have HB := Aside0.mk (below_then (below_alloc (below_alloc (Below.refl _ _) _) _) (by show w.heap.size ≤ ((w.heap.push _).push _).size; rw [Array.size_push, Array.size_push]; omega) hb1)
      clear ho hb1
      go_wp2_with fail
      refine (mapped_calls A c t1 t1.length w.heap.size (w.heap.size + 1) A1 c1 l1 A2 c2 l2 n _ (Kd.R_reads' HO.out).2.2 (by omega) hg1 hg2 (Kd.C_below HR1.out HB.out) (Kd.C_below HR2.out HB.out)).mono ?_
      rintro e w2 ⟨rfl, q, rfl⟩
      have hb2 : Below w.heap.size w ((w1.alloc (.cells (fillRow t1.length (t1.map (changed l1 l2))) 9)).drewN q) := pw_below_drewN (below_alloc HB.out _) q
      have HB2 := Aside0.mk hb2
      clear hb2
      go_wp2_with fail
      refine (text_n _ t1.length t1.length (t1.map (changed l1 l2)) r1 r2 _ (by simp) (Kd.C_drewN (full_C0 _ _ _ (by simp) (by simp; omega)) q) (Nat.le_refl _) HH.out).mono ?_
      rintro e w3 ⟨rfl, hb3⟩
      go_wp2_with fail
      go_ret2
      exact ⟨rfl, below_step HB2.out hb3⟩
    · rw [if_neg h1] at h
      simp only [Option.some.injEq, Prod.mk.injEq] at h
      obtain ⟨rfl, rfl⟩ := h
      have hb : ((l1.length : Int) != (l2.length : Int)) = true := by simp; omega
      go_enter Tryd.func18, Tryd.ntmps18
      go_wp2_with fail
      refine (path_Parse.calls a0 t1 0 _ HT.out).mono ?_
      rintro e w1 ⟨v, rfl, ho, hb1⟩
      obtain ⟨A, c, rfl⟩ := Kd.R_slice ho
      have hg1 : w1.cell? ⟨w.heap.size, 0, none⟩ = some (.slice A1 l1.length c1) := pw_cell_below hb1 (by simp [go_sem])
      have hg2 : w1.cell? ⟨w.heap.size + 1, 0, none⟩ = some (.slice A2 l2.length c2) := pw_cell_below hb1 (by simp [go_sem])
      have HB := Aside0.mk (below_then (below_alloc (below_alloc (Below.refl _ _) _) _) (by show w.heap.size ≤ ((w.heap.push _).push _).size; rw [Array.size_push, Array.size_push]; omega) hb1)
      clear ho hb1
      go_wp2_with fail
      go_ret2
      exact ⟨rfl, HB.out⟩
  · rw [if_neg h0] at h
    simp only [Option.some.injEq, Prod.mk.injEq] at h
    obtain ⟨rfl, rfl⟩ := h
    have hb : (t2 != 0) = true := bne_iff_ne.mpr h0
    clear h0
    go_enter Tryd.func18, Tryd.ntmps18
    go_wp2_with fail
    refine (path_Parse.calls a0 t1 t2 _ HT.out).mono ?_
    rintro e w1 ⟨v, rfl, ho, hb1⟩
    obtain ⟨A, c, rfl⟩ := Kd.R_slice ho
    have HB := Aside0.mk (below_then (below_alloc (below_alloc (Below.refl _ _) _) _) (by show w.heap.size ≤ ((w.heap.push _).push _).size; rw [Array.size_push, Array.size_push]; omega) hb1)
    clear ho hb1
    go_wp2_with fail
    go_ret2
    exact ⟨rfl, HB.out⟩
end Go.Proofs.YtecfnngbomnnjaaDoor.G
