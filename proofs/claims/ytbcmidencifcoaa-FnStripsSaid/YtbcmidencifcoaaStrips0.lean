/- The plain law of the strips; no condition. -/
import Derived.Test.YtbcmidencifcoaaTurnStrip0
namespace Go.Proofs.Ytbcmidencifcoaa
open Go.RowKit

theorem pw_of_ok {l : List (Int × Int)} (h : okN l l.length = true) : l.Pairwise fun a b => ltN a b = true := by
  rw [List.pairwise_iff_getElem]
  intro i j hi hj hij
  have := okN_lt h hij hj
  rwa [gN_eq hi, gN_eq hj] at this
theorem ok_of_pw {l : List (Int × Int)} (h : l.Pairwise fun a b => ltN a b = true) (hb : ∀ x ∈ l, noteB x = true) : okN l l.length = true :=
  okN_all fun k hk => stpB_iff.2 ⟨hb _ (gN_mem hk), by
    by_cases h0 : k = 0
    · exact .inl h0
    · refine .inr ?_
      rw [gN_eq hk, gN_eq (show k - 1 < l.length by omega)]
      exact List.pairwise_iff_getElem.1 h (k - 1) k (by omega) hk (by omega)⟩
theorem strip_of {n : Int} {l : List (Int × Int)} (hn : 1 ≤ n ∧ n ≤ 2000) (h : l.Pairwise fun a b => ltN a b = true) (hl : l.length ≤ 40) (hb : ∀ x ∈ l, (0 ≤ x.1 ∧ x.1 ≤ 1000) ∧ (0 ≤ x.2 ∧ x.2 ≤ 60) ∧ x.1 < n) : stripB n l = true := by
  refine stripB_mk (inB_yes hn.1 hn.2) ?_ (fun k hk => (hb _ (gN_mem hk)).2.2)
  unfold tuneB
  rw [Bool.and_eq_true, decide_eq_true_eq]
  exact ⟨hl, ok_of_pw h (fun x hx => noteB_iff.2 ⟨(hb x hx).1, (hb x hx).2.1⟩)⟩
theorem ext_gN {l m : List (Int × Int)} (h : l.length = m.length) (hg : ∀ k, k < l.length → gN l k = gN m k) : l = m :=
  List.ext_getElem h (fun k h1 h2 => by rw [← gN_eq h1, ← gN_eq h2]; exact hg k h1)
/-! cutting -/
theorem cuA_eq (l : List (Int × Int)) (m : Int) (k : Nat) (hk : k ≤ l.length) : cuA l m k = (l.take k).filter fun x => decide (x.1 < m) := by
  induction k with
  | zero => simp [cuA]
  | succ k ih =>
    rw [take_succ_gN (show k < l.length by omega), List.filter_append, ← ih (by omega)]
    by_cases h : (gN l k).1 < m
    · rw [cuA_yes h]; simp [h]
    · rw [cuA_no h]; simp [h]
theorem cuB_eq (l : List (Int × Int)) (m : Int) (k : Nat) (hk : k ≤ l.length) : cuB l m k = ((l.take k).filter fun x => decide (m ≤ x.1)).map fun x => (x.1 - m, x.2) := by
  induction k with
  | zero => simp [cuB]
  | succ k ih =>
    rw [take_succ_gN (show k < l.length by omega), List.filter_append, List.map_append, ← ih (by omega)]
    by_cases h : (gN l k).1 < m
    · rw [cuB_yes h]; simp [show ¬ m ≤ (gN l k).1 by omega]
    · rw [cuB_no h]; simp [show m ≤ (gN l k).1 by omega]
theorem shN_eq (l : List (Int × Int)) (d : Int) : shN l d l.length = l.map fun x => (x.1 + d, x.2) := by
  refine ext_gN (by rw [shN_len, List.length_map]) (fun k hk => ?_)
  rw [shN_len] at hk
  rw [shN_get hk, gN_eq (show k < (l.map fun x => (x.1 + d, x.2)).length by simpa using hk), List.getElem_map, gN_eq hk]
theorem filter_split {l : List (Int × Int)} (h : l.Pairwise fun a b => ltN a b = true) (m : Int) : (l.filter fun x => decide (x.1 < m)) ++ (l.filter fun x => decide (m ≤ x.1)) = l := by
  induction l with
  | nil => rfl
  | cons x l ih =>
    rw [List.pairwise_cons] at h
    by_cases hx : x.1 < m
    · rw [List.filter_cons_of_pos (by simpa using hx), List.filter_cons_of_neg (by simp; omega), List.cons_append, ih h.2]
    · have hn : ∀ y ∈ l, ¬ y.1 < m := fun y hy => by have := ltN_iff.1 (h.1 y hy); omega
      rw [List.filter_cons_of_neg (by simpa using hx), List.filter_cons_of_pos (by simp; omega)]
      have e1 : (l.filter fun x => decide (x.1 < m)) = [] := List.filter_eq_nil_iff.2 (fun y hy => by simpa using hn y hy)
      have e2 : (l.filter fun x => decide (m ≤ x.1)) = l := List.filter_eq_self.2 (fun y hy => by have := hn y hy; simp; omega)
      rw [e1, e2]; rfl
theorem glue_cut {l : List (Int × Int)} (h : l.Pairwise fun a b => ltN a b = true) (m : Int) : cuA l m l.length ++ shN (cuB l m l.length) m (cuB l m l.length).length = l := by
  rw [shN_eq, cuA_eq l m _ (Nat.le_refl _), cuB_eq l m _ (Nat.le_refl _), List.take_length, List.map_map]
  have : ((fun x : Int × Int => (x.1 + m, x.2)) ∘ fun x => (x.1 - m, x.2)) = id := by
    funext x
    simp
  rw [this, List.map_id, filter_split h]
/-! counting -/
theorem hinN_eq (l : List (Int × Int)) (a b : Int) (k : Nat) (hk : k ≤ l.length) : hinN l a b k = (((l.take k).filter fun x => decide (a ≤ x.1 ∧ x.1 < b)).length : Int) := by
  induction k with
  | zero => simp [hinN]
  | succ k ih =>
    rw [take_succ_gN (show k < l.length by omega), List.filter_append, List.length_append, hinN, ih (by omega)]
    split
    · rename_i h; simp [h]
    · rename_i h
      rw [List.filter_cons_of_neg (by simpa using h)]
      simp
theorem hinN_all (l : List (Int × Int)) (a b : Int) : hinN l a b l.length = ((l.filter fun x => decide (a ≤ x.1 ∧ x.1 < b)).length : Int) := by
  rw [hinN_eq l a b _ (Nat.le_refl _), List.take_length]
/-- the drawn strip -/
def drS (n : Int) (l : List (Int × Int)) : Prop := (16 ≤ n ∧ n ≤ 35) ∧ l.length ≤ 11 ∧ tuneB l = true ∧ ∀ x ∈ l, (0 ≤ x.1 ∧ x.1 ≤ 15) ∧ 10 ≤ x.2 ∧ x.2 ≤ 19
theorem drS_ok {n : Int} {l : List (Int × Int)} (h : drS n l) : stripB n l = true := by
  obtain ⟨h1, h2, h3, h4⟩ := h
  exact stripB_mk (inB_yes (by omega) (by omega)) h3 (fun k hk => by have := (h4 _ (gN_mem hk)).1; omega)
/-! turning -/
theorem mem_turned {n : Int} {l : List (Int × Int)} {x : Int × Int} : x ∈ srtN (rvN n l l.length) ↔ ∃ y ∈ l, x = (n - 1 - y.1, y.2) := by
  rw [srtN, srt_mem, rvN_mem]
  constructor
  · rintro ⟨j, hj, rfl⟩
    exact ⟨_, gN_mem hj, rfl⟩
  · rintro ⟨y, hy, rfl⟩
    obtain ⟨j, hj, rfl⟩ := List.getElem_of_mem hy
    exact ⟨j, hj, by rw [gN_eq hj]⟩
theorem turned_ok {n : Int} {l : List (Int × Int)} (hn : 1 ≤ n ∧ n ≤ 1000) (h : stripB n l = true) : stripB n (srtN (rvN n l l.length)) = true := by
  obtain ⟨_, h2, h3⟩ := stripB_iff h
  obtain ⟨h4, h5⟩ := tuneB_iff h2
  refine strip_of (by omega) (srt_pw ordN _) ?_ (fun x hx => ?_)
  · have := srtN_len (rvN n l l.length)
    rw [rvN_len] at this
    omega
  · obtain ⟨y, hy, rfl⟩ := mem_turned.1 hx
    obtain ⟨j, hj, rfl⟩ := List.getElem_of_mem hy
    have b := okN_bd h5 hj
    have t := h3 j hj
    rw [gN_eq hj] at b t
    simp only
    omega
theorem turL_eq {n : Int} {l : List (Int × Int)} (hn : 1 ≤ n ∧ n ≤ 1000) (h : stripB n l = true) : turL n l = srtN (rvN n l l.length) := by
  rw [turL, turB, h, turned_ok hn h]; rfl
theorem turn_turn {n : Int} {l : List (Int × Int)} (hn : 1 ≤ n ∧ n ≤ 1000) (h : stripB n l = true) : turL n (turL n l) = l := by
  have e := turL_eq hn h
  have ok2 := turned_ok hn h
  rw [e, turL_eq hn ok2]
  refine srt_eq ordN (pw_of_ok (tuneB_iff (stripB_iff h).2.1).2) (fun x => ?_)
  rw [rvN_mem]
  constructor
  · intro hx
    have hm : (n - 1 - x.1, x.2) ∈ srtN (rvN n l l.length) := mem_turned.2 ⟨x, hx, rfl⟩
    obtain ⟨j, hj, hj2⟩ := List.getElem_of_mem hm
    refine ⟨j, hj, ?_⟩
    rw [gN_eq hj, hj2]
    refine Prod.ext ?_ rfl
    simp only
    omega
  · rintro ⟨j, hj, rfl⟩
    obtain ⟨y, hy, e2⟩ := mem_turned.1 (gN_mem hj)
    rw [e2]
    have : (n - 1 - (n - 1 - y.1), y.2) = y := Prod.ext (by simp only; omega) rfl
    simp only
    rw [this]
    exact hy
theorem turn_perm {n : Int} {l : List (Int × Int)} (h : stripB n l = true) : (srtN (rvN n l l.length)).Perm (rvN n l l.length) := by
  have hnd := rvN_nodup (n := n) (tuneB_iff (stripB_iff h).2.1).2 l.length (Nat.le_refl _)
  exact (List.perm_ext_iff_of_nodup (pw_nodup ordN (srt_pw ordN _)) hnd).2 (fun x => srt_mem)
theorem rvN_eq (n : Int) (l : List (Int × Int)) : rvN n l l.length = l.map fun x => (n - 1 - x.1, x.2) := by
  have : ∀ k, k ≤ l.length → rvN n l k = (l.take k).map fun x => (n - 1 - x.1, x.2) := by
    intro k
    induction k with
    | zero => simp [rvN]
    | succ k ih => intro hk; rw [rvN, take_succ_gN (show k < l.length by omega), List.map_append, ih (by omega)]; rfl
  rw [this _ (Nat.le_refl _), List.take_length]
/-- as many holes lie before k, turned, as lie in the last k steps -/
theorem turn_count {n k : Int} {l : List (Int × Int)} (hn : 1 ≤ n ∧ n ≤ 1000) (h : stripB n l = true) (hk : 1 ≤ k ∧ k ≤ n) : hinN (turL n l) 0 k (turL n l).length = hinN l (n - k) n l.length := by
  rw [turL_eq hn h, hinN_all, hinN_all]
  have p := (turn_perm h).filter (fun x => decide (0 ≤ x.1 ∧ x.1 < k))
  rw [p.length_eq, rvN_eq, List.filter_map, List.length_map]
  congr 1
  congr 1
  refine List.filter_congr (fun x hx => ?_)
  obtain ⟨j, hj, rfl⟩ := List.getElem_of_mem hx
  have t := (stripB_iff h).2.2 j hj
  have b := okN_bd (tuneB_iff (stripB_iff h).2.1).2 hj
  rw [gN_eq hj] at t b
  simp only [Function.comp_apply, decide_eq_decide]
  omega
end Go.Proofs.Ytbcmidencifcoaa
