/- The plain law of the notations: tunes and cylinders read back from their texts; no condition. -/
import Derived.Test.YthgllpocljeegaaGreatDoorReadTune0
import Derived.Test.YthgllpocljeegaaGreatDoorTune0
import Derived.Test.YthgllpocljeegaaGreatDoorTuneText
import Derived.Test.YthgllpocljeegaaGreatDoorGrid
import Derived.Test.YthgllpocljeegaaGreatDoorReadGrid0
namespace Go.Proofs.YthgllpocljeegaaGreatDoor
open Go.RowKit Go.Sort

/-! ## tunes -/
theorem spl_inter {c : UInt8} {P : List (List UInt8)} (h0 : P ≠ []) (h : ∀ p ∈ P, c ∉ p) : spl c ([c].intercalate P) = P := by
  induction P with
  | nil => exact absurd rfl h0
  | cons a r ih =>
    cases r with
    | nil =>
      have : ([c].intercalate [a] : List UInt8) = a := by simp [List.intercalate]
      rw [this, spl_none (h a (by simp))]
    | cons b r =>
      rw [List.intercalate_cons_cons, List.append_assoc, List.singleton_append, spl_hit (h a (by simp)), ih (by simp) (fun p hp => h p (by simp [hp]))]
/-- the pieces of a tune's text -/
def pcN (l : List (Int × Int)) (k : Nat) : List (List UInt8) := (wdN l k).map (·.data.toList)
theorem pcN_len (l : List (Int × Int)) (k : Nat) : (pcN l k).length = k := by simp [pcN, wdN_len]
theorem pcN_get {l : List (Int × Int)} {n k : Nat} (h : k < n) : (pcN l n).getD k [] = (ntK l k).data.toList := by
  induction n with
  | zero => omega
  | succ n ih =>
    have e : pcN l (n + 1) = pcN l n ++ [(ntK l n).data.toList] := by simp [pcN, wdN]
    rw [e, List.getD_eq_getElem?_getD]
    by_cases hk : k < n
    · rw [List.getElem?_append_left (by rw [pcN_len]; exact hk), ← List.getD_eq_getElem?_getD, ih hk]
    · obtain rfl : k = n := by omega
      rw [List.getElem?_append_right (by rw [pcN_len]; exact Nat.le_refl _), pcN_len, Nat.sub_self]
      rfl
theorem ntK_data {l : List (Int × Int)} {k : Nat} (h : tuneB l = true) (hk : k < l.length) : ∃ t p : Nat, (t ≤ 1000 ∧ p ≤ 60) ∧ gN l k = ((t : Int), (p : Int)) ∧ (ntK l k).data.toList = ntL t p := by
  have hb := okN_bd (tuneB_iff h).2 hk
  obtain ⟨t, ht⟩ := Int.eq_ofNat_of_zero_le hb.1.1
  obtain ⟨p, hp⟩ := Int.eq_ofNat_of_zero_le hb.2.1
  have hb2 : t ≤ 1000 ∧ p ≤ 60 := by omega
  refine ⟨t, p, hb2, Prod.ext ht hp, ?_⟩
  rw [ntK, ht, hp]
  exact ntT_data hb2
theorem ntK_rn {l : List (Int × Int)} {k : Nat} (h : tuneB l = true) (hk : k < l.length) : rnB (ntK l k).data.toList = true ∧ (((rnN (ntK l k).data.toList).1 : Int), ((rnN (ntK l k).data.toList).2 : Int)) = gN l k ∧ (32 : UInt8) ∉ (ntK l k).data.toList := by
  obtain ⟨t, p, hb, hg, hd⟩ := ntK_data h hk
  obtain ⟨q1, q2⟩ := rn_yes (rnF_some.2 ⟨hb, hd⟩)
  rw [q1, q2, hg, hd]
  exact ⟨rfl, rfl, ntL_32 t p⟩
theorem pc_no {l : List (Int × Int)} (h : tuneB l = true) : ∀ p ∈ pcN l l.length, (32 : UInt8) ∉ p := by
  intro p hp
  obtain ⟨k, hk, rfl⟩ := List.getElem_of_mem hp
  rw [pcN_len] at hk
  have e : (pcN l l.length)[k]'(by rw [pcN_len]; exact hk) = (pcN l l.length).getD k [] := by simp [pcN_len, hk]
  rw [e, pcN_get hk]
  exact (ntK_rn h hk).2.2
theorem tt_data (l : List (Int × Int)) : (ttN l l.length).data.toList = ([32] : List UInt8).intercalate (pcN l l.length) := (ttN_join l l.length).symm
theorem tt_read {l : List (Int × Int)} (h : tuneB l = true) : rtB (ttF l).data.toList = true ∧ rtL (ttF l).data.toList = l := by
  rw [ttF_yes h]
  by_cases h0 : l.length = 0
  · obtain rfl : l = [] := List.eq_nil_of_length_eq_zero h0
    exact rt_nil
  have hne : pcN l l.length ≠ [] := fun e => by have := congrArg List.length e; rw [pcN_len] at this; exact h0 this
  have hs : spl 32 (ttN l l.length).data.toList = pcN l l.length := by rw [tt_data]; exact spl_inter hne (pc_no h)
  have hL : (ttN l l.length).data.toList ≠ [] := fun e => by
    rw [e] at hs
    have h1 := pcN_get (l := l) (n := l.length) (k := 0) (by omega)
    rw [← hs] at h1
    obtain ⟨t, p, _, _, hd⟩ := ntK_data h (k := 0) (by omega)
    rw [hd] at h1
    exact ntL_pos t p h1.symm
  have hB : ∀ k, k ≤ l.length → wsB (pcN l l.length) k = true := by
    intro k
    induction k with
    | zero => intro _; rfl
    | succ k ih =>
      intro hk
      rw [wsB, ih (by omega), pcN_get (show k < l.length by omega), (ntK_rn h (show k < l.length by omega)).1]
      rfl
  have hN : ∀ k, k ≤ l.length → wsN (pcN l l.length) k = l.take k := by
    intro k
    induction k with
    | zero => intro _; rfl
    | succ k ih =>
      intro hk
      rw [wsN, ih (by omega), wkN, pcN_get (show k < l.length by omega), (ntK_rn h (show k < l.length by omega)).2.1, ← take_succ_gN (show k < l.length by omega)]
  have hN2 := hN l.length (Nat.le_refl _)
  rw [List.take_length] at hN2
  have := rt_yes hL (by rw [hs, pcN_len]; exact hB _ (Nat.le_refl _)) (by rw [hs, pcN_len, hN2]; exact h)
  rw [hs, pcN_len, hN2] at this
  exact this
theorem tt_bad {l : List (Int × Int)} (h : tuneB l = true) : rtB ((ttF l).data.toList ++ [32, 120]) = false ∧ rtL ((ttF l).data.toList ++ [32, 120]) = [] := by
  rw [ttF_yes h]
  obtain ⟨P, hP0, hP1, hP2⟩ : ∃ P : List (List UInt8), P ≠ [] ∧ (∀ p ∈ P, (32 : UInt8) ∉ p) ∧ (ttN l l.length).data.toList = ([32] : List UInt8).intercalate P := by
    by_cases h0 : l.length = 0
    · obtain rfl : l = [] := List.eq_nil_of_length_eq_zero h0
      exact ⟨[[]], by simp, by simp, rfl⟩
    · exact ⟨pcN l l.length, fun e => by have := congrArg List.length e; rw [pcN_len] at this; exact h0 this, pc_no h, tt_data l⟩
  have e : ([32] : List UInt8).intercalate P ++ [32, 120] = ([32] : List UInt8).intercalate (P ++ [[120]]) := by
    have := join_snoc P [120] [32] hP0
    unfold Lib.join at this
    rw [this, List.append_assoc]
    rfl
  rw [hP2, e]
  have hs : spl 32 (([32] : List UInt8).intercalate (P ++ [[120]])) = P ++ [[120]] := spl_inter (by simp) (fun p hp => by
    rcases List.mem_append.1 hp with h1 | h1
    · exact hP1 p h1
    · rw [List.mem_singleton] at h1; subst h1; decide)
  refine rt_no (fun e2 => by
    rw [e2] at hs
    have := congrArg List.length hs
    simp [spl] at this
    exact hP0 this) (.inl ?_)
  rw [hs]
  refine wsB_no (k := P.length) (by simp) ?_
  have : (P ++ [[120]]).getD P.length [] = [120] := by simp
  rw [this]
  exact (rn_no (rn_miss (by decide))).2
theorem nt127 : ntT 12 7 = ⟨#[49, 50, 58, 55]⟩ := by
  apply ba_ext
  have := ntT_data (t := 12) (p := 7) ⟨by omega, by omega⟩
  have h2 : (ntT ((12 : Nat) : Int) ((7 : Nat) : Int)).data.toList = ntL 12 7 := this
  have h3 : ntL 12 7 = [49, 50, 58, 55] := by
    unfold ntL
    rw [dec_ge (show ¬ 12 < 10 by omega), dec_lt (show 12 / 10 < 10 by omega), dec_lt (show 7 < 10 by omega)]
    rfl
  rw [h3] at h2
  exact h2
/-! ## cylinders -/
theorem gridN_get {S : Nat} {l : List (Int × Int)} {n t : Nat} (h : t < n) : gS (gridN S l n) t = strOfNums (rowX S l (t : Int) l.length) := by
  induction n with
  | zero => omega
  | succ n ih =>
    rw [gridN]
    unfold gS at *
    rw [List.getD_eq_getElem?_getD]
    by_cases e : t < n
    · rw [List.getElem?_append_left (by rw [gridN_len]; exact e), ← List.getD_eq_getElem?_getD]
      exact ih e
    · obtain rfl : t = n := by omega
      rw [List.getElem?_append_right (by rw [gridN_len]; exact Nat.le_refl _), gridN_len, Nat.sub_self]
      rfl
theorem gi_set_eqX {l : List Int} {j : Nat} (x : Int) (h : j < l.length) : gi (l.set j x) j = x := by simp [gi, h]
theorem gi_set_neX {l : List Int} {i j : Nat} (x : Int) (h : i ≠ j) : gi (l.set i x) j = gi l j := by simp [gi, List.getElem?_set_ne h]
theorem rowX_val {S : Nat} {l : List (Int × Int)} {t : Int} {k a : Nat} (ha : a < S) (hb : ∀ j, j < k → 0 ≤ (gP l j).2 ∧ (gP l j).2 ≤ (S : Int) - 1) : (gi (rowX S l t k) a = 120 ∨ gi (rowX S l t k) a = 46) ∧ (gi (rowX S l t k) a = 120 ↔ ∃ j, j < k ∧ gP l j = (t, (a : Int))) := by
  induction k with
  | zero =>
    have : gi (rowX S l t 0) a = 46 := by simp [rowX, gi, ha]
    rw [this]
    exact ⟨.inr rfl, by constructor <;> intro h; (· simp at h); (· obtain ⟨j, hj, _⟩ := h; omega)⟩
  | succ k ih =>
    have ih := ih (fun j hj => hb j (by omega))
    by_cases hp : (gP l k).1 = t
    · rw [rowX_yes hp]
      have hbk := hb k (by omega)
      by_cases e : (gP l k).2.toNat = a
      · subst e
        rw [gi_set_eqX _ (by rw [rowX_len]; exact ha)]
        exact ⟨.inl rfl, fun _ => ⟨k, by omega, Prod.ext hp (Int.toNat_of_nonneg hbk.1).symm⟩, fun _ => rfl⟩
      · rw [gi_set_neX _ e]
        refine ⟨ih.1, ih.2.trans ⟨fun ⟨j, hj, h⟩ => ⟨j, by omega, h⟩, fun ⟨j, hj, h⟩ => ⟨j, ?_, h⟩⟩⟩
        rcases Nat.lt_or_ge j k with h1 | h1
        · exact h1
        · obtain rfl : j = k := by omega
          rw [h] at e
          exact absurd (by simp) e
    · rw [rowX_no hp]
      refine ⟨ih.1, ih.2.trans ⟨fun ⟨j, hj, h⟩ => ⟨j, by omega, h⟩, fun ⟨j, hj, h⟩ => ⟨j, ?_, h⟩⟩⟩
      rcases Nat.lt_or_ge j k with h1 | h1
      · exact h1
      · obtain rfl : j = k := by omega
        rw [h] at hp
        exact absurd rfl hp
theorem byS_str {xs : List Int} {a : Nat} (ha : a < xs.length) (hv : gi xs a = 120 ∨ gi xs a = 46) : byS (strOfNums xs) a = gi xs a := by
  unfold byS
  have : (strOfNums xs).data.toList.getD a 0 = UInt8.ofNat (gi xs a).toNat := by
    rw [strOfNums_data]
    simp [gi, ha]
  rw [this]
  rcases hv with h | h <;> rw [h] <;> rfl
structure NotesL (S T : Nat) (l : List (Int × Int)) : Prop where
  len : (gridF (S : Int) (T : Int) l).length = T
  rb : rgB (gridF (S : Int) (T : Int) l) = true
  rs : rgS (gridF (S : Int) (T : Int) l) = S
  rt : rgT (gridF (S : Int) (T : Int) l) = T
  rl : rgL (gridF (S : Int) (T : Int) l) = l
  sz : ∀ t, t < T → (gS (gridF (S : Int) (T : Int) l) t).size = S
  mks : (iP S (gridF (S : Int) (T : Int) l) T).length = l.length
theorem notes_law {S T : Nat} {l : List (Int × Int)} (h : cylB (S : Int) (T : Int) l = true) : NotesL S T l := by
  obtain ⟨hS, hT, hl, hok⟩ := cylB_iff h
  have hG : gridF (S : Int) (T : Int) l = gridN S l T := by rw [gridF, if_pos h, Int.toNat_natCast, Int.toNat_natCast]
  have hb : ∀ j, j < l.length → (0 ≤ (gP l j).1 ∧ (gP l j).1 ≤ (T : Int) - 1) ∧ (0 ≤ (gP l j).2 ∧ (gP l j).2 ≤ (S : Int) - 1) := fun j hj => okP_bd hok hj
  have hv : ∀ t a, a < S → _ := fun t a ha => rowX_val (S := S) (l := l) (t := (t : Int)) (k := l.length) (a := a) ha (fun j hj => (hb j hj).2)
  have hbyte : ∀ (t : Nat) (a : Nat), t < T → a < S → byS (gS (gridN S l T) t) a = gi (rowX S l (t : Int) l.length) a := fun t a ht ha => by
    rw [gridN_get ht]
    exact byS_str (by rw [rowX_len]; exact ha) (hv (t : Int) a ha).1
  have hsz : ∀ t, t < T → (gS (gridN S l T) t).size = S := fun t ht => by rw [gridN_get ht, strOfNums_size, rowX_len]
  have hlen := gridN_len S l T
  have h0 : 0 < T := by omega
  have hsP : sP (gridN S l T) T S = l := by
    refine pw_eq ordP _ _ (sP_pw _ _ _) ?_ (fun x => ?_)
    · rw [List.pairwise_iff_getElem]
      intro i j hi hj hij
      have := okP_lt hok hij hj
      rwa [gP_eq hi, gP_eq hj] at this
    · rw [sP_mem]
      constructor
      · rintro ⟨a, ha, t, ht, hby, rfl⟩
        rw [hbyte t a ht ha, (hv (t : Int) a ha).2] at hby
        obtain ⟨j, hj, he⟩ := hby
        rw [← he]
        exact gP_mem hj
      · intro hx
        obtain ⟨j, hj, rfl⟩ := List.getElem_of_mem hx
        rw [← gP_eq hj]
        obtain ⟨⟨b1, b2⟩, b3, b4⟩ := hb j hj
        obtain ⟨t, ht⟩ := Int.eq_ofNat_of_zero_le b1
        obtain ⟨a, ha⟩ := Int.eq_ofNat_of_zero_le b3
        have e : gP l j = ((t : Int), (a : Int)) := Prod.ext ht ha
        refine ⟨a, by omega, t, by omega, ?_, e⟩
        rw [hbyte t a (by omega) (by omega), (hv (t : Int) a (by omega)).2]
        exact ⟨j, hj, e⟩
  have hrb : rgB (gridN S l T) = true := by
    simp only [rgB, Bool.and_eq_true, hlen, hsz 0 h0, hsP]
    refine ⟨⟨⟨inB_yes (by omega) (by omega), inB_yes (by omega) (by omega)⟩, okG_iff.2 fun t ht => ⟨hsz t ht, fun a ha => ?_⟩⟩, h⟩
    rw [hbyte t a ht ha]
    rcases (hv (t : Int) a ha).1 with h1 | h1 <;> rw [h1]
    · exact okB_120
    · exact okB_46
  refine ⟨by rw [hG, hlen], by rw [hG]; exact hrb, ?_, ?_, ?_, by rw [hG]; exact hsz, ?_⟩
  · rw [hG, rgS, if_pos hrb, hsz 0 h0]
  · rw [hG, rgT, if_pos hrb, hlen]
  · rw [hG, rgL, if_pos hrb, hlen, hsz 0 h0, hsP]
  · rw [hG]
    have h1 := merge_srt (iP_nd S (gridN S l T) T)
    rw [srt_iP, hsP] at h1
    have h2 := (List.mergeSort_perm (iP S (gridN S l T) T) (fun x y => !ltOf cmpP y x)).length_eq
    rw [h1] at h2
    exact h2.symm
end Go.Proofs.YthgllpocljeegaaGreatDoor
