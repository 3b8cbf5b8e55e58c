/- Stable insertion by a key: the plain law; lists of ints that grow, by 'append'; no condition. -/
import Derived.Test.YtloienidakomdaaData
namespace Go.Proofs.Ytloienidakomdaa
open Go.RowKit

/-- where x goes among the first m of L: behind all whose key is not above its own -/
def posD (d : Int → Int) (L : List Int) (x : Int) : Nat → Nat
  | 0 => 0
  | a + 1 => if d x < d (gi L a) then posD d L x a else a + 1
def mv (L : List Int) (x : Int) (j : Nat) : List Int := L.take j ++ x :: L.drop j
def insD (d : Int → Int) (L : List Int) (x : Int) : List Int := mv L x (posD d L x L.length)
/-- 0, 1, .. k - 1, in the order of their keys -/
def dueL (d : Int → Int) : Nat → List Int
  | 0 => []
  | k + 1 => insD d (dueL d k) (k : Int)
theorem posD_le (d : Int → Int) (L : List Int) (x : Int) (m : Nat) : posD d L x m ≤ m := by
  induction m with
  | zero => exact Nat.le_refl _
  | succ m ih => unfold posD; split <;> omega
theorem posD_eq {d : Int → Int} {L : List Int} {x : Int} {j : Nat} (m : Nat) (hj : j ≤ m) (h1 : ∀ a, j ≤ a → a < m → d x < d (gi L a)) (h2 : j = 0 ∨ ¬ d x < d (gi L (j - 1))) : posD d L x m = j := by
  induction m with
  | zero => simp [posD]; omega
  | succ m ih =>
    by_cases e : j = m + 1
    · subst e
      rcases h2 with h | h
      · omega
      · rw [posD, if_neg (by simpa using h)]
    · rw [posD, if_pos (h1 m (by omega) (by omega))]
      exact ih (by omega) (fun a ha hm => h1 a ha (by omega))
theorem mv_len {L : List Int} {x : Int} {j : Nat} : (mv L x j).length = L.length + 1 := by simp [mv]; omega
theorem dueL_len (d : Int → Int) (k : Nat) : (dueL d k).length = k := by
  induction k with
  | zero => rfl
  | succ k ih => rw [dueL, insD, mv_len, ih]
theorem mv_split {L : List Int} {j : Nat} (h : j < L.length) : ∃ P y S, L = P ++ y :: S ∧ P.length = j ∧ gi L j = y := by
  refine ⟨L.take j, L[j], L.drop (j + 1), ?_, by simp; omega, gi_eq h⟩
  rw [List.getElem_cons_drop, List.take_append_drop]
theorem mv_at {L T : List Int} {x : Int} {j : Nat} (h : j ≤ L.length) : gi (mv L x j ++ T) j = x := by
  have e : (L.take j).length = j := by simp; omega
  simp [gi, mv, List.getElem?_append_right, e]
theorem mv_pred {L T : List Int} {x : Int} {j : Nat} (h : j < L.length) : gi (mv L x (j + 1) ++ T) j = gi L j := by
  have e : (L.take (j + 1)).length = j + 1 := by simp; omega
  simp [gi, mv, List.getElem?_append_left, e, List.getElem?_take, h]
theorem mv_step {L T : List Int} {x : Int} {j : Nat} (h : j < L.length) : ((mv L x (j + 1) ++ T).set (j + 1) (gi L j)).set j x = mv L x j ++ T := by
  obtain ⟨P, y, S, hL, rfl, hy⟩ := mv_split h
  rw [hy, hL]
  simp [mv, List.take_append, List.drop_append, List.set_append]
  rw [List.take_of_length_le (by omega), List.drop_of_length_le (by omega)]
  simp
/-- the same, by one store: what is left behind is as it was -/
theorem mv_back {L T : List Int} {x : Int} {j : Nat} (h : j < L.length) : (mv L x (j + 1) ++ T).set (j + 1) (gi L j) = mv L (gi L j) j ++ T := by
  obtain ⟨P, y, S, hL, rfl, hy⟩ := mv_split h
  rw [hy, hL]
  simp [mv, List.take_append, List.drop_append, List.set_append]
  rw [List.take_of_length_le (by omega), List.drop_of_length_le (by omega)]
  simp
theorem mv_put {L : List Int} {x z : Int} {j : Nat} (h : j ≤ L.length) : (mv L z j).set j x = mv L x j := by
  have e : (L.take j).length = j := by simp; omega
  simp [mv, List.set_append, e]
theorem mv_end {L : List Int} {x : Int} : mv L x L.length = L ++ [x] := by simp [mv]
theorem upI_cons (k : Int) (n : Nat) : upI k (n + 1) = k :: upI (k + 1) n := by
  apply List.ext_getElem?
  intro i
  cases i with
  | zero => simp [upI]
  | succ i =>
    rcases Nat.lt_or_ge i n with h | h
    · simp [upI, List.getElem?_range, h, Nat.add_lt_add_iff_right]; omega
    · rw [List.getElem?_eq_none (by simp [upI]; omega), List.getElem?_cons_succ, List.getElem?_eq_none (by simp [upI]; omega)]
/-- what the sort holds at the head of round i -/
def outD (d : Int → Int) (n i : Nat) : List Int := dueL d i ++ upI (i : Int) (n - i)
theorem outD_in {d : Int → Int} {n i : Nat} (h : i < n) : outD d n i = mv (dueL d i) (i : Int) i ++ upI ((i : Int) + 1) (n - i - 1) := by
  unfold outD
  rw [show n - i = (n - i - 1) + 1 by omega, upI_cons, Nat.add_sub_cancel]
  have := mv_end (L := dueL d i) (x := (i : Int))
  rw [dueL_len] at this
  rw [this]
  simp
theorem outD_next {d : Int → Int} {n i j : Nat} (h : i < n) (hj : j ≤ i) (h1 : ∀ a, j ≤ a → a < i → d (i : Int) < d (gi (dueL d i) a)) (h2 : j = 0 ∨ ¬ d (i : Int) < d (gi (dueL d i) (j - 1))) :
    mv (dueL d i) (i : Int) j ++ upI ((i : Int) + 1) (n - i - 1) = outD d n (i + 1) := by
  have := posD_eq (d := d) (L := dueL d i) (x := (i : Int)) (j := j) i hj h1 h2
  rw [outD, dueL, insD, dueL_len, this, show n - (i + 1) = n - i - 1 by omega]
  rfl
theorem dueL_next {d : Int → Int} {i j : Nat} (hj : j ≤ i) (h1 : ∀ a, j ≤ a → a < i → d (i : Int) < d (gi (dueL d i) a)) (h2 : j = 0 ∨ ¬ d (i : Int) < d (gi (dueL d i) (j - 1))) :
    mv (dueL d i) (i : Int) j = dueL d (i + 1) := by
  have := posD_eq (d := d) (L := dueL d i) (x := (i : Int)) (j := j) i hj h1 h2
  rw [dueL, insD, dueL_len, this]
theorem outD_len {d : Int → Int} {n i : Nat} (h : i ≤ n) : (outD d n i).length = n := by
  rw [outD, List.length_append, dueL_len, upI_len]; omega
theorem mvD_len {d : Int → Int} {n i j : Nat} (h : i < n) : (mv (dueL d i) (i : Int) j ++ upI ((i : Int) + 1) (n - i - 1)).length = n := by
  rw [List.length_append, mv_len, dueL_len, upI_len]; omega
theorem outD_start (d : Int → Int) (n : Nat) (h : 1 ≤ n) : outD d n 1 = upI 0 n := by
  unfold outD
  rw [show n = (n - 1) + 1 by omega, upI_cons, Nat.add_sub_cancel]
  simp [dueL, insD, posD, mv]
theorem outD_end (d : Int → Int) (n : Nat) : outD d n n = dueL d n := by simp [outD, upI]
theorem posD_mem {L : List Int} {x z : Int} {j : Nat} : z ∈ mv L x j ↔ z = x ∨ z ∈ L := by
  unfold mv
  rw [List.mem_append, List.mem_cons]
  constructor
  · rintro (h | rfl | h)
    · exact .inr (List.mem_of_mem_take h)
    · exact .inl rfl
    · exact .inr (List.mem_of_mem_drop h)
  · rintro (rfl | h)
    · exact .inr (.inl rfl)
    · rw [← List.take_append_drop j L, List.mem_append] at h
      rcases h with h | h
      · exact .inl h
      · exact .inr (.inr h)
theorem dueL_mem {d : Int → Int} {k : Nat} {z : Int} : z ∈ dueL d k ↔ 0 ≤ z ∧ z < k := by
  induction k with
  | zero => simp [dueL] <;> omega
  | succ k ih => rw [dueL, insD, posD_mem, ih]; omega
theorem dueL_bd {d : Int → Int} {k a : Nat} (h : a < k) : 0 ≤ gi (dueL d k) a ∧ gi (dueL d k) a < k := dueL_mem.1 (gi_mem (by rw [dueL_len]; exact h))
end Go.Proofs.Ytloienidakomdaa
