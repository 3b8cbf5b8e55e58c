/- The plain law of the wear; no condition. -/
import Derived.Test.YtoijjjaodfincaaTurns2
import Derived.Test.YtoijjjaodfincaaWos
namespace Go.Proofs.Ytoijjjaodfincaa
open Go.RowKit

theorem silN_iff {l : List Int} {m : Int} {k j : Nat} : (j : Int) ∈ silN l m k ↔ j < k ∧ gi l j < m := by
  induction k with
  | zero => simp [silN]
  | succ k ih =>
    unfold silN
    split
    · rename_i h
      rw [List.mem_append, ih, List.mem_singleton]
      constructor
      · rintro (h' | h')
        · exact ⟨by omega, h'.2⟩
        · obtain rfl : j = k := by omega
          exact ⟨by omega, h⟩
      · rintro ⟨h1, h2⟩
        by_cases e : j = k
        · exact .inr (by rw [e])
        · exact .inl ⟨by omega, h2⟩
    · rename_i h
      rw [ih]
      constructor
      · rintro ⟨h1, h2⟩; exact ⟨by omega, h2⟩
      · rintro ⟨h1, h2⟩
        by_cases e : j = k
        · subst e; exact absurd h2 h
        · exact ⟨by omega, h2⟩
theorem renN_get {l s : List Int} {h : Int} {k j : Nat} (hs : ∀ x ∈ s, 0 ≤ x ∧ x < l.length) (hk : k ≤ s.length) (hj : j < l.length) : gi (renN l s h k) j = if (j : Int) ∈ s.take k then h else gi l j := by
  induction k with
  | zero => simp [renN]
  | succ k ih =>
    have ih := ih (by omega)
    have hb := hs _ (gi_mem (show k < s.length by omega))
    rw [renN, take_succ_gi (show k < s.length by omega)]
    by_cases e : (gi s k).toNat = j
    · subst e
      rw [gi_set_eq _ (by rw [renN_len]; exact hj), if_pos]
      rw [List.mem_append, List.mem_singleton]
      exact .inr (by omega)
    · rw [gi_set_ne _ e, ih]
      have : ((j : Int) ∈ List.take k s ++ [gi s k]) ↔ (j : Int) ∈ List.take k s := by
        rw [List.mem_append, List.mem_singleton]
        exact ⟨fun h => h.elim id (fun h => by omega), .inl⟩
      simp only [this]
theorem wos_sil (l : List (Int × Int)) (h : List Int) (m : Int) (k : Nat) : (wosN l h m k).length + (silN h m k).length = k := by
  induction k with
  | zero => simp [wosN, silN]
  | succ k ih =>
    by_cases e : m ≤ gi h k
    · rw [wosN_yes e, silN, if_neg (by omega)]; simp; omega
    · rw [wosN_no e, silN, if_pos (by omega)]; simp; omega
/-- the drawn heights -/
def drH (l : List Int) : Prop := ∀ x ∈ l, 0 ≤ x ∧ x ≤ 99
structure WearL (n m : Int) (l : List Int) : Prop where
  ok : wearB n l = true
  e1 : turnsF n l m = -1 ↔ 0 < (silF n l m).length
  b1 : -1 ≤ turnsF n l m ∧ turnsF n l m ≤ 1000
  e2 : 0 ≤ turnsF n l m → (silF n (aftF n l (turnsF n l m)) m).length = 0 ∧ (turnsF n l m < 1000 → 0 < (silF n (aftF n l (turnsF n l m + 1)) m).length)
  e3 : renQ n l m 100 = (silF n l m).length
  e4 : (silF n (renF n l m 100) m).length = 0
  e5 : ∀ k, k < l.length → (silF n l m).contains (k : Int) = decide (gi l k < m)
  e6 : ∀ k, k < l.length → ¬ gi l k < m → gi (renF n l m 100) k = gi l k
  e7 : aftF n (aftF n l 2) 3 = aftF n l 5
theorem ext_gi {l m : List Int} (h : l.length = m.length) (hg : ∀ k, k < l.length → gi l k = gi m k) : l = m :=
  List.ext_getElem h (fun k h1 h2 => by rw [← gi_eq h1, ← gi_eq h2]; exact hg k h1)
theorem wear_law {n m : Int} {l : List Int} (n1 : 1 ≤ n) (n6 : n ≤ 6) (m1 : 1 ≤ m) (m40 : m ≤ 40) (hl : l.length ≤ 7) (h0 : 0 < l.length) (hd : drH l) : WearL n m l := by
  have ok : wearB n l = true := by
    simp only [wearB, Bool.and_eq_true, decide_eq_true_eq, List.all_eq_true]
    exact ⟨⟨by omega, inB_yes (by omega) (by omega)⟩, fun x hx => by have := hd x hx; exact inB_yes (by omega) (by omega)⟩
  have hm : inB m 0 1000 = true := inB_yes (by omega) (by omega)
  have hS : ∀ (l' : List Int), wearB n l' = true → silF n l' m = silN l' m l'.length := fun l' h => by simp [silF, h, hm]
  have h100 : inB 100 0 1000 = true := inB_yes (by omega) (by omega)
  have hR : renB n l m 100 = true := by simp [renB, ok, hm, h100]
  have hRF : renF n l m 100 = renN l (silF n l m) 100 (silF n l m).length := by simp [renF, hR]
  have hg : ∀ j, j < l.length → gi (renF n l m 100) j = if gi l j < m then 100 else gi l j := fun j hj => by
    rw [hRF, renN_get (fun x hx => silF_mem hx) (Nat.le_refl _) hj, List.take_length, hS l ok]
    simp only [silN_iff, hj, true_and]
  have okR : wearB n (renF n l m 100) = true := by
    have hL := renF_len n l m 100
    simp only [wearB, Bool.and_eq_true, decide_eq_true_eq, List.all_eq_true]
    refine ⟨⟨by omega, inB_yes (by omega) (by omega)⟩, fun x hx => ?_⟩
    obtain ⟨j, hj, rfl⟩ := List.getElem_of_mem hx
    rw [← gi_eq hj, hg j (by omega)]
    have := hd _ (gi_mem (show j < l.length by omega))
    split
    · exact h100
    · exact inB_yes (by omega) (by omega)
  refine ⟨ok, ?_, ?_, fun ht => ?_, ?_, ?_, fun k hk => ?_, fun k hk hn => ?_, ?_⟩
  · unfold turnsF
    split
    · rename_i hb
      have hn := left_nonneg hb
      simp only [leftB, Bool.and_eq_true, decide_eq_true_eq] at hb
      omega
    · rename_i hb
      simp only [leftB, Bool.and_eq_true, decide_eq_true_eq, ok, hm, true_and] at hb
      simp
      rcases Nat.eq_zero_or_pos (silF n l m).length with h | h
      · exact absurd ⟨by omega, h⟩ hb
      · exact h
  · unfold turnsF
    split
    · rename_i hb
      have := left_nonneg hb
      omega
    · omega
  · unfold turnsF at ht ⊢
    split at ht
    · rename_i hb
      have hn := left_nonneg hb
      rw [if_pos hb]
      refine ⟨(good_iff hb hn.1 hn.2).2 (Int.le_refl _), fun h => ?_⟩
      have := (good_iff hb (t := leftF n l m + 1) (by omega) (by omega)).1
      rcases Nat.eq_zero_or_pos (silF n (aftF n l (leftF n l m + 1)) m).length with h | h
      · have := this h; omega
      · exact h
    · omega
  · simp [renQ, hR]
  · rw [List.length_eq_zero_iff, hS _ okR, silN_nil, renF_len]
    intro j hj
    rw [hg j hj]
    split <;> omega
  · rw [hS l ok]
    cases hc : decide (gi l k < m) with
    | true => rw [List.contains_iff_mem, silN_iff]; exact ⟨hk, by simpa using hc⟩
    | false =>
      cases hq : (silN l m l.length).contains (k : Int) with
      | false => rfl
      | true => rw [List.contains_iff_mem, silN_iff] at hq; simp at hc; omega
  · rw [hg k hk, if_neg hn]
  · have a2 := aft_wear ok 2 (by omega)
    have f2 : aftF n l 2 = aftN l (n * 2) l.length := by simp [aftF, ok, inB_yes (show (0 : Int) ≤ 2 by omega) (show (2 : Int) ≤ 1000 by omega)]
    have f5 : aftF n l 5 = aftN l (n * 5) l.length := by simp [aftF, ok, inB_yes (show (0 : Int) ≤ 5 by omega) (show (5 : Int) ≤ 1000 by omega)]
    have f3 : ∀ q, wearB n q = true → aftF n q 3 = aftN q (n * 3) q.length := fun q hq => by simp [aftF, hq, inB_yes (show (0 : Int) ≤ 3 by omega) (show (3 : Int) ≤ 1000 by omega)]
    have f3 := f3 _ a2
    rw [f3, f5]
    refine ext_gi (by rw [aftN_len, aftN_len, aftF_len]) (fun k hk => ?_)
    rw [aftN_len, aftF_len] at hk
    have hb := hd _ (gi_mem hk)
    rw [aftN_lt _ _ (by rw [aftF_len]; exact hk) (Nat.le_refl _), aftN_lt _ _ hk (Nat.le_refl _), f2, aftN_lt _ _ hk (Nat.le_refl _)]
    repeat' split
    all_goals omega
end Go.Proofs.Ytoijjjaodfincaa
