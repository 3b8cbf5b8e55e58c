/- The plain laws of tunes and of the bellows; no condition. -/
import Derived.Test.YthgllpocljeegaaGreatDoorRowNote
namespace Go.Proofs.YthgllpocljeegaaGreatDoor
open Go.RowKit

def ltN (a b : Int × Int) : Bool := decide (a.1 < b.1 ∨ a.1 = b.1 ∧ a.2 < b.2)
def noteB (a : Int × Int) : Bool := inB a.1 0 1000 && inB a.2 0 60
/-- note k is in range and follows the one ahead of it -/
def stpB (l : List (Int × Int)) (k : Nat) : Bool := noteB (gN l k) && (decide (k = 0) || ltN (gN l (k - 1)) (gN l k))
/-- the first k notes are in range and rise -/
def okN (l : List (Int × Int)) : Nat → Bool
  | 0 => true
  | k + 1 => okN l k && stpB l k
theorem okN_at {l : List (Int × Int)} {n k : Nat} (h : okN l n = true) (hk : k < n) : stpB l k = true := by
  induction n with
  | zero => omega
  | succ n ih =>
    rw [okN, Bool.and_eq_true] at h
    by_cases e : k = n
    · rw [e]; exact h.2
    · exact ih h.1 (by omega)
theorem okN_no {l : List (Int × Int)} {n k : Nat} (hk : k < n) (h : stpB l k = false) : okN l n = false := by
  cases ho : okN l n with
  | false => rfl
  | true => rw [okN_at ho hk] at h; cases h
theorem okN_all {l : List (Int × Int)} {n : Nat} (h : ∀ k, k < n → stpB l k = true) : okN l n = true := by
  induction n with
  | zero => rfl
  | succ n ih => rw [okN, ih (fun k hk => h k (by omega)), h n (by omega)]; rfl
def tuneB (l : List (Int × Int)) : Bool := decide (l.length ≤ 40) && okN l l.length
theorem tuneB_iff {l : List (Int × Int)} (h : tuneB l = true) : l.length ≤ 40 ∧ okN l l.length = true := by
  simpa [tuneB] using h
theorem noteB_iff {a : Int × Int} : noteB a = true ↔ (0 ≤ a.1 ∧ a.1 ≤ 1000) ∧ (0 ≤ a.2 ∧ a.2 ≤ 60) := by
  simp only [noteB, Bool.and_eq_true, inB_iff]
theorem ltN_iff {a b : Int × Int} : ltN a b = true ↔ a.1 < b.1 ∨ a.1 = b.1 ∧ a.2 < b.2 := by simp [ltN]
theorem stpB_iff {l : List (Int × Int)} {k : Nat} : stpB l k = true ↔ noteB (gN l k) = true ∧ (k = 0 ∨ ltN (gN l (k - 1)) (gN l k) = true) := by
  simp [stpB]
theorem okN_bd {l : List (Int × Int)} {n k : Nat} (h : okN l n = true) (hk : k < n) : (0 ≤ (gN l k).1 ∧ (gN l k).1 ≤ 1000) ∧ (0 ≤ (gN l k).2 ∧ (gN l k).2 ≤ 60) :=
  noteB_iff.1 (stpB_iff.1 (okN_at h hk)).1
/-- a later note is behind -/
theorem okN_lt {l : List (Int × Int)} {n j k : Nat} (h : okN l n = true) (hj : j < k) (hk : k < n) : ltN (gN l j) (gN l k) = true := by
  induction k with
  | zero => omega
  | succ k ih =>
    have hs := (stpB_iff.1 (okN_at h hk)).2
    have hs : ltN (gN l k) (gN l (k + 1)) = true := by
      rcases hs with hs | hs
      · omega
      · exact hs
    by_cases e : j = k
    · rw [e]; exact hs
    · have := ih (by omega) (by omega)
      rw [ltN_iff] at this hs ⊢
      omega
theorem okN_mono {l : List (Int × Int)} {n j k : Nat} (h : okN l n = true) (hj : j ≤ k) (hk : k < n) : (gN l j).1 ≤ (gN l k).1 := by
  by_cases e : j = k
  · rw [e]; exact Int.le_refl _
  · have := ltN_iff.1 (okN_lt h (j := j) (by omega) hk)
    omega

/-- the pitches at time t among the first k notes -/
def atN (l : List (Int × Int)) (t : Int) : Nat → List Int
  | 0 => []
  | k + 1 => if (gN l k).1 = t then atN l t k ++ [(gN l k).2] else atN l t k
theorem atN_len (l : List (Int × Int)) (t : Int) (k : Nat) : (atN l t k).length ≤ k := by
  induction k with
  | zero => simp [atN]
  | succ k ih =>
    unfold atN
    split
    · rw [List.length_append]; simp; omega
    · omega
theorem atN_yes {l : List (Int × Int)} {t : Int} {k : Nat} (h : (gN l k).1 = t) : atN l t (k + 1) = atN l t k ++ [(gN l k).2] := by rw [atN, if_pos h]
theorem atN_not {l : List (Int × Int)} {t : Int} {k : Nat} (h : (gN l k).1 ≠ t) : atN l t (k + 1) = atN l t k := by rw [atN, if_neg h]
def natF (l : List (Int × Int)) (t : Int) : List Int := if tuneB l then atN l t l.length else []
theorem natF_len (l : List (Int × Int)) (t : Int) : (natF l t).length ≤ l.length := by
  unfold natF
  split
  · exact atN_len _ _ _
  · simp

/-- from time t on, f times: the first whose notes want more air than there is; -1: none -/
def fsG (l : List (Int × Int)) (r p : Int) : Nat → Int → Int → Int
  | 0, _, _ => -1
  | f + 1, t, a => if min (a + p) r < 3 * ((natF l t).length : Int) then t else fsG l r p f (t + 1) (min (a + p) r - 3 * ((natF l t).length : Int))
theorem fsG_hit {l : List (Int × Int)} {r p t a : Int} {f : Nat} (h : min (a + p) r < 3 * ((natF l t).length : Int)) : fsG l r p (f + 1) t a = t := by rw [fsG, if_pos h]
theorem fsG_miss {l : List (Int × Int)} {r p t a : Int} {f : Nat} (h : ¬ min (a + p) r < 3 * ((natF l t).length : Int)) : fsG l r p (f + 1) t a = fsG l r p f (t + 1) (min (a + p) r - 3 * ((natF l t).length : Int)) := by rw [fsG, if_neg h]
def spanN (l : List (Int × Int)) : Nat := ((gN l (l.length - 1)).1 - (gN l 0).1 + 1).toNat
def fsB (l : List (Int × Int)) (r p : Int) : Bool := tuneB l && decide (0 < l.length) && inB r 1 1000 && inB p 0 100
def fsF (l : List (Int × Int)) (r p : Int) : Int := if fsB l r p then fsG l r p (spanN l) (gN l 0).1 r else -1
theorem fsG_bd (l : List (Int × Int)) (r p : Int) (f : Nat) (t a : Int) : fsG l r p f t a = -1 ∨ t ≤ fsG l r p f t a ∧ fsG l r p f t a < t + f := by
  induction f generalizing t a with
  | zero => exact .inl rfl
  | succ f ih =>
    by_cases h : min (a + p) r < 3 * ((natF l t).length : Int)
    · rw [fsG_hit h]; right; omega
    · rw [fsG_miss h]
      rcases ih (t + 1) (min (a + p) r - 3 * ((natF l t).length : Int)) with h | h
      · exact .inl h
      · right; omega
theorem fsG_later {l : List (Int × Int)} {r r' p p' : Int} (hr : r ≤ r') (hp : p ≤ p') (f : Nat) : ∀ t a a', a ≤ a' → 0 ≤ t →
    (fsG l r p f t a < 0 → fsG l r' p' f t a' < 0) ∧ (0 ≤ fsG l r p f t a → fsG l r' p' f t a' < 0 ∨ fsG l r p f t a ≤ fsG l r' p' f t a') := by
  induction f with
  | zero => intro t a a' _ _; exact ⟨fun h => h, fun _ => .inl (by simp [fsG])⟩
  | succ f ih =>
    intro t a a' ha ht
    by_cases h : min (a + p) r < 3 * ((natF l t).length : Int)
    · rw [fsG_hit h]
      refine ⟨fun h => by omega, fun _ => ?_⟩
      rcases fsG_bd l r' p' (f + 1) t a' with h | h <;> omega
    · have h' : ¬ min (a' + p') r' < 3 * ((natF l t).length : Int) := by omega
      rw [fsG_miss h, fsG_miss h']
      exact ih (t + 1) _ _ (by omega) (by omega)
theorem gN0_nonneg {l : List (Int × Int)} (h : tuneB l = true) (h0 : 0 < l.length) : 0 ≤ (gN l 0).1 := (okN_bd (tuneB_iff h).2 h0).1.1
theorem fsB_iff {l : List (Int × Int)} {r p : Int} (h : fsB l r p = true) : tuneB l = true ∧ 0 < l.length ∧ (1 ≤ r ∧ r ≤ 1000) ∧ 0 ≤ p ∧ p ≤ 100 := by
  simp only [fsB, Bool.and_eq_true, decide_eq_true_eq, inB_iff] at h
  exact ⟨h.1.1.1, h.1.1.2, h.1.2, h.2⟩
theorem fsF_mono {l : List (Int × Int)} {r r' p p' : Int} (hr : r ≤ r') (hp : p ≤ p') (h0 : 1 ≤ r) (h1 : 0 ≤ p) (h2 : r ≤ 1000) (h3 : p ≤ 100) (h : fsF l r p < 0) : fsF l r' p' < 0 := by
  unfold fsF
  split
  · rename_i hb
    obtain ⟨b1, b2, b3, b4, b5⟩ := fsB_iff hb
    have hb' : fsB l r p = true := by simp [fsB, b1, b2, inB_yes h0 h2, inB_yes h1 h3]
    rw [fsF, if_pos hb'] at h
    exact (fsG_later hr hp _ _ _ _ hr (gN0_nonneg b1 b2)).1 h
  · omega
theorem fsF_empty {l : List (Int × Int)} (h : l.length = 0) (r p : Int) : fsF l r p = -1 := by
  rw [fsF, if_neg]
  simp [fsB, h]
theorem fsF_lo (l : List (Int × Int)) (r p : Int) : -1 ≤ fsF l r p ∧ fsF l r p ≤ 1000 := by
  unfold fsF
  split
  · rename_i hb
    obtain ⟨b1, b2, b3, b4, b5⟩ := fsB_iff hb
    have h0 := gN0_nonneg b1 b2
    have hl := (okN_bd (tuneB_iff b1).2 (show l.length - 1 < l.length by omega)).1
    have hm := okN_mono (tuneB_iff b1).2 (show 0 ≤ l.length - 1 by omega) (show l.length - 1 < l.length by omega)
    have hs : (spanN l : Int) = (gN l (l.length - 1)).1 - (gN l 0).1 + 1 := by unfold spanN; omega
    rcases fsG_bd l r p (spanN l) (gN l 0).1 r with h | h <;> omega
  · omega

/-- the least k below n with P k; n: none -/
def lsF (P : Nat → Bool) : Nat → Nat
  | 0 => 0
  | n + 1 => if lsF P n < n then lsF P n else if P n then n else n + 1
theorem lsF_spec (P : Nat → Bool) (n : Nat) : lsF P n ≤ n ∧ (∀ j, j < lsF P n → P j = false) ∧ (lsF P n < n → P (lsF P n) = true) := by
  induction n with
  | zero => exact ⟨Nat.le_refl _, fun j h => by simp [lsF] at h, fun h => by simp [lsF] at h⟩
  | succ n ih =>
    obtain ⟨i1, i2, i3⟩ := ih
    by_cases h : lsF P n < n
    · rw [lsF, if_pos h]
      exact ⟨by omega, i2, fun _ => i3 h⟩
    · have e : lsF P n = n := by omega
      rw [lsF, if_neg h]
      rw [e] at i2
      split
      · rename_i hp
        exact ⟨by omega, i2, fun _ => hp⟩
      · rename_i hp
        refine ⟨Nat.le_refl _, fun j hj => ?_, fun h => by omega⟩
        by_cases ej : j = n
        · rw [ej]; simpa using hp
        · exact i2 j (by omega)
theorem lsF_eq {P : Nat → Bool} {n k : Nat} (h1 : k ≤ n) (h2 : ∀ j, j < k → P j = false) (h3 : k < n → P k = true) : lsF P n = k := by
  obtain ⟨i1, i2, i3⟩ := lsF_spec P n
  rcases Nat.lt_trichotomy (lsF P n) k with h | h | h
  · have := i3 (by omega); rw [h2 _ h] at this; cases this
  · exact h
  · have := h3 (by omega); rw [i2 _ h] at this; cases this
def silB (l : List (Int × Int)) (r p : Int) : Bool := decide (fsF l r p < 0)
/-- the least pump -/
def lpF (l : List (Int × Int)) (r : Int) : Int :=
  if tuneB l && inB r 1 1000 then (if lsF (fun k => silB l r (k : Int)) 101 = 101 then -1 else (lsF (fun k => silB l r (k : Int)) 101 : Int)) else -1
/-- the least room -/
def lrF (l : List (Int × Int)) (p : Int) : Int :=
  if tuneB l && inB p 0 100 then (if lsF (fun k => silB l (k + 1 : Int) p) 1000 = 1000 then -1 else (lsF (fun k => silB l (k + 1 : Int) p) 1000 : Int) + 1) else -1
theorem silB_pump {l : List (Int × Int)} {r : Int} {j k : Nat} (h0 : 1 ≤ r) (h2 : r ≤ 1000) (hk : k ≤ 100) (h : j ≤ k) (hs : silB l r (k : Int) = false) : silB l r (j : Int) = false := by
  cases e : silB l r (j : Int) with
  | false => rfl
  | true =>
    have := fsF_mono (l := l) (r := r) (r' := r) (p := (j : Int)) (p' := (k : Int)) (Int.le_refl _) (by omega) h0 (by omega) h2 (by omega) (by simpa [silB] using e)
    simp [silB] at hs
    omega
theorem silB_room {l : List (Int × Int)} {p : Int} {j k : Nat} (h0 : 0 ≤ p) (h2 : p ≤ 100) (hk : k < 1000) (h : j ≤ k) (hs : silB l (k + 1 : Int) p = false) : silB l (j + 1 : Int) p = false := by
  cases e : silB l (j + 1 : Int) p with
  | false => rfl
  | true =>
    have := fsF_mono (l := l) (r := (j + 1 : Int)) (r' := (k + 1 : Int)) (p := p) (p' := p) (by omega) (Int.le_refl _) (by omega) h0 (by omega) h2 (by simpa [silB] using e)
    simp [silB] at hs
    omega
end Go.Proofs.YthgllpocljeegaaGreatDoor
