/- The plain law of the bellows: more air is never worse, the least room and the least pump are enough; no condition. -/
import Derived.Test.YtbcmidencifcoaaBell0
namespace Go.Proofs.Ytbcmidencifcoaa
open Go.RowKit

theorem fsG_some {l : List (Int × Int)} {r p : Int} (hr : 0 ≤ r) (hp : 0 ≤ p) (f : Nat) : ∀ t a : Int, 0 ≤ a → 0 ≤ t → 0 ≤ fsG l r p f t a → 0 < (natF l (fsG l r p f t a)).length := by
  induction f with
  | zero => intro t a _ _ h; simp [fsG] at h
  | succ f ih =>
    intro t a ha ht h
    by_cases hh : min (a + p) r < 3 * ((natF l t).length : Int)
    · rw [fsG_hit hh]; omega
    · rw [fsG_miss hh] at h ⊢
      exact ih (t + 1) _ (by omega) (by omega) h
theorem fsF_some {l : List (Int × Int)} {r p : Int} (h : 0 ≤ fsF l r p) : 0 < (natF l (fsF l r p)).length := by
  unfold fsF at h ⊢
  split
  · rename_i hb
    rw [if_pos hb] at h
    obtain ⟨b1, b2, b3, b4, b5⟩ := fsB_iff hb
    exact fsG_some (by omega) b4 _ _ _ (by omega) (gN0_nonneg b1 b2) h
  · rename_i hb
    rw [if_neg hb] at h
    omega
/-- more pump: none silent, or later -/
theorem fsF_pump {l : List (Int × Int)} {r p : Int} (h : 0 ≤ fsF l r p) (hp : p + 1 ≤ 100) : fsF l r (p + 1) < 0 ∨ fsF l r p ≤ fsF l r (p + 1) := by
  unfold fsF at h ⊢
  split at h
  · rename_i hb
    obtain ⟨b1, b2, b3, b4, b5⟩ := fsB_iff hb
    have hb' : fsB l r (p + 1) = true := by simp [fsB, b1, b2, inB_yes b3.1 b3.2, inB_yes (show 0 ≤ p + 1 by omega) hp]
    rw [if_pos hb', if_pos hb]
    exact (fsG_later (Int.le_refl _) (by omega) _ _ _ _ (Int.le_refl _) (gN0_nonneg b1 b2)).2 h
  · omega
theorem lpF_bd {l : List (Int × Int)} {r : Int} (ho : tuneB l = true) (h1 : 1 ≤ r) (h2 : r ≤ 1000) :
    (lpF l r = -1 ∧ ∀ p : Int, 0 ≤ p → p ≤ 100 → 0 ≤ fsF l r p) ∨ (0 ≤ lpF l r ∧ lpF l r ≤ 100 ∧ fsF l r (lpF l r) < 0 ∧ ∀ p : Int, 0 ≤ p → p < lpF l r → 0 ≤ fsF l r p) := by
  obtain ⟨s1, s2, s3⟩ := lsF_spec (fun k => silB l r (k : Int)) 101
  have e : lpF l r = if lsF (fun k => silB l r (k : Int)) 101 = 101 then -1 else (lsF (fun k => silB l r (k : Int)) 101 : Int) := by
    simp [lpF, ho, inB_yes h1 h2]
  generalize lsF (fun k => silB l r (k : Int)) 101 = n at *
  have nn : ∀ p : Int, 0 ≤ p → p < n → 0 ≤ fsF l r p := fun p h0 hn => by
    obtain ⟨q, rfl⟩ := Int.eq_ofNat_of_zero_le h0
    have := s2 q (by omega)
    simpa [silB] using this
  by_cases h : n = 101
  · rw [if_pos h] at e
    exact .inl ⟨e, fun p h0 h9 => nn p h0 (by omega)⟩
  · rw [if_neg h] at e
    rw [e]
    have := s3 (by omega)
    exact .inr ⟨by omega, by omega, by simpa [silB] using this, fun p h0 hp => nn p h0 hp⟩
theorem lrF_bd {l : List (Int × Int)} {p : Int} (ho : tuneB l = true) (h1 : 0 ≤ p) (h2 : p ≤ 100) :
    (lrF l p = -1 ∧ ∀ r : Int, 1 ≤ r → r ≤ 1000 → 0 ≤ fsF l r p) ∨ (1 ≤ lrF l p ∧ lrF l p ≤ 1000 ∧ fsF l (lrF l p) p < 0 ∧ ∀ r : Int, 1 ≤ r → r < lrF l p → 0 ≤ fsF l r p) := by
  obtain ⟨s1, s2, s3⟩ := lsF_spec (fun k => silB l (k + 1 : Int) p) 1000
  have e : lrF l p = if lsF (fun k => silB l (k + 1 : Int) p) 1000 = 1000 then -1 else (lsF (fun k => silB l (k + 1 : Int) p) 1000 : Int) + 1 := by
    simp [lrF, ho, inB_yes h1 h2]
  generalize lsF (fun k => silB l (k + 1 : Int) p) 1000 = n at *
  have nn : ∀ r : Int, 1 ≤ r → r < n + 1 → 0 ≤ fsF l r p := fun r h0 hn => by
    obtain ⟨q, hq⟩ := Int.eq_ofNat_of_zero_le (show 0 ≤ r - 1 by omega)
    have := s2 q (by omega)
    rw [show r = (q : Int) + 1 by omega]
    simpa [silB] using this
  by_cases h : n = 1000
  · rw [if_pos h] at e
    exact .inl ⟨e, fun r h0 h9 => nn r h0 (by omega)⟩
  · rw [if_neg h] at e
    rw [e]
    have := s3 (by omega)
    exact .inr ⟨by omega, by omega, by simpa [silB] using this, fun r h0 hp => nn r h0 (by omega)⟩
theorem fsF_neg {l : List (Int × Int)} {r p : Int} (h : fsF l r p < 0) : fsF l r p = -1 := by
  have := (fsF_lo l r p).1
  omega
/-- the bellows' law in numbers -/
structure Bel (l : List (Int × Int)) (r p : Int) : Prop where
  f1 : 0 ≤ fsF l r p → 0 < (natF l (fsF l r p)).length
  f2 : 0 ≤ fsF l r p → fsF l r (p + 1) < 0 ∨ fsF l r p ≤ fsF l r (p + 1)
  r1 : 0 ≤ lrF l p → 1 ≤ lrF l p ∧ lrF l p ≤ 1000 ∧ fsF l (lrF l p) p = -1 ∧ (1 < lrF l p → 0 ≤ fsF l (lrF l p - 1) p)
  p1 : 0 ≤ lpF l r → lpF l r ≤ 100 ∧ fsF l r (lpF l r) = -1 ∧ (0 < lpF l r → 0 ≤ fsF l r (lpF l r - 1))
  e1 : fsF l r p < 0 ↔ 0 ≤ lpF l r ∧ lpF l r ≤ p
  e2 : fsF l r p < 0 ↔ 0 ≤ lrF l p ∧ lrF l p ≤ r
theorem bel_any {l : List (Int × Int)} {r p : Int} (ho : tuneB l = true) (h1 : 1 ≤ r) (h2 : r ≤ 1000) (h3 : 0 ≤ p) (h4 : p ≤ 99) : Bel l r p := by
  have P := lpF_bd ho h1 h2
  have R := lrF_bd ho h3 (show p ≤ 100 by omega)
  refine ⟨fsF_some, fun h => fsF_pump h (by omega), fun h => ?_, fun h => ?_, ?_, ?_⟩
  · rcases R with R | ⟨a, b, c, d⟩
    · omega
    · exact ⟨a, b, fsF_neg c, fun h => d _ (by omega) (by omega)⟩
  · rcases P with P | ⟨a, b, c, d⟩
    · omega
    · exact ⟨b, fsF_neg c, fun h => d _ (by omega) (by omega)⟩
  · rcases P with ⟨a, b⟩ | ⟨a, b, c, d⟩
    · have := b p h3 (by omega)
      constructor <;> intro h <;> omega
    · constructor
      · intro h
        refine ⟨a, ?_⟩
        rcases Int.lt_or_le p (lpF l r) with h' | h'
        · have := d p h3 h'; omega
        · exact h'
      · intro h
        exact fsF_mono (Int.le_refl _) h.2 h1 a h2 (by omega) c
  · rcases R with ⟨a, b⟩ | ⟨a, b, c, d⟩
    · have := b r h1 h2
      constructor <;> intro h <;> omega
    · constructor
      · intro h
        refine ⟨by omega, ?_⟩
        rcases Int.lt_or_le r (lrF l p) with h' | h'
        · have := d r h1 h'; omega
        · exact h'
      · intro h
        exact fsF_mono h.2 (Int.le_refl _) a h3 (by omega) (by omega) c
end Go.Proofs.Ytbcmidencifcoaa
