/- The plain law of the discs; no condition. -/
import Derived.Test.YtoijjjaodfincaaFlip
import Derived.Test.YtoijjjaodfincaaDiscOf
import Derived.Test.YtoijjjaodfincaaCod
namespace Go.Proofs.Ytoijjjaodfincaa
open Go.RowKit

theorem gi_out {l : List Int} {j : Nat} (h : l.length ≤ j) : gi l j = 0 := by simp [gi, h]
theorem gi_set_same {l : List Int} {j : Nat} (x : Int) (h : j < l.length) : gi (l.set j x) j = x := by simp [gi, h]
theorem gi_set_off {l : List Int} {i j : Nat} (x : Int) (h : i ≠ j) : gi (l.set i x) j = gi l j := by simp [gi, List.getElem?_set_ne h]
theorem setsL_get {l : List Int} {idx : Nat → Nat} {val : Nat → Int} {k i : Nat} (hinj : ∀ a b, a < k → b < k → idx a = idx b → a = b) (hi : i < k) (hl : idx i < l.length) : gi (setsL l idx val k) (idx i) = val i := by
  induction k with
  | zero => omega
  | succ k ih =>
    rw [setsL]
    by_cases e : i = k
    · subst e
      exact gi_set_same _ (by rw [setsL_len]; exact hl)
    · rw [gi_set_off _ (fun h => e (hinj i k (by omega) (by omega) h.symm))]
      exact ih (fun a b ha hb => hinj a b (by omega) (by omega)) (by omega)
theorem ext_gD {l m : List Int} (h : l.length = m.length) (hg : ∀ k, k < l.length → gi l k = gi m k) : l = m :=
  List.ext_getElem h (fun k h1 h2 => by rw [← gi_eq h1, ← gi_eq h2]; exact hg k h1)
theorem mod_add_inj {s b i j : Nat} (hi : i < s) (hj : j < s) (h : (i + b) % s = (j + b) % s) : i = j := by
  have h1 := Nat.div_add_mod (i + b) s
  have h2 := Nat.div_add_mod (j + b) s
  rw [h] at h1
  have hq : (i + b) / s = (j + b) / s := by
    rcases Nat.lt_trichotomy ((i + b) / s) ((j + b) / s) with hlt | he | hlt
    · have := Nat.mul_le_mul_left s (Nat.succ_le_of_lt hlt)
      rw [Nat.mul_succ] at this
      omega
    · exact he
    · have := Nat.mul_le_mul_left s (Nat.succ_le_of_lt hlt)
      rw [Nat.mul_succ] at this
      omega
  rw [hq] at h1
  omega
theorem turnL_at {l : List Int} {b i : Nat} (hi : i < l.length) : gi (turnL l b) ((i + b) % l.length) = gi l i :=
  setsL_get (idx := fun k => (k + b) % l.length) (fun a c ha hc h => mod_add_inj ha hc h) hi (Nat.mod_lt _ (by omega))
theorem flip_idx {s k : Nat} (h : k < s) : (s - k) % s = if k = 0 then 0 else s - k := by
  split
  · subst k; simp
  · rw [Nat.mod_eq_of_lt (by omega)]
theorem flipL_at {l : List Int} {i : Nat} (hi : i < l.length) : gi (flipL l) ((l.length - i) % l.length) = gi l i :=
  setsL_get (idx := fun k => (l.length - k) % l.length) (fun a c ha hc h => by
    rw [flip_idx ha, flip_idx hc] at h
    split at h <;> split at h <;> omega) hi (Nat.mod_lt _ (by omega))
theorem turnL_len (l : List Int) (b : Nat) : (turnL l b).length = l.length := setsL_len _ _ _ _
theorem flipL_len (l : List Int) : (flipL l).length = l.length := setsL_len _ _ _ _
theorem turnL_rot (l : List Int) (b : Nat) : turnL l b = l.drop (l.length - b % l.length) ++ l.take (l.length - b % l.length) := by
  by_cases h0 : l.length = 0
  · have h1 := turnL_len l b
    rw [List.length_eq_zero_iff.1 h0] at h1 ⊢
    rw [List.length_eq_zero_iff.1 h1]
    simp
  have hb := Nat.mod_lt b (show 0 < l.length by omega)
  refine ext_gD (by rw [turnL_len]; simp) (fun j hj => ?_)
  rw [turnL_len] at hj
  generalize hq : b % l.length = q at *
  have key : ∀ i, i < l.length → (i + b) % l.length = j → gi (turnL l b) j = gi l i := fun i hi he => by rw [← he]; exact turnL_at hi
  by_cases hjq : j < q
  · rw [key (l.length - q + j) (by omega) (by rw [Nat.add_mod, hq, Nat.mod_eq_of_lt (show l.length - q + j < l.length by omega), show l.length - q + j + q = j + l.length by omega, Nat.add_mod_right, Nat.mod_eq_of_lt hj])]
    unfold gi
    rw [List.getD_eq_getElem?_getD, List.getD_eq_getElem?_getD, List.getElem?_append_left (by simp; omega), List.getElem?_drop]
  · rw [key (j - q) (by omega) (by rw [Nat.add_mod, hq, Nat.mod_eq_of_lt (show j - q < l.length by omega), show j - q + q = j by omega, Nat.mod_eq_of_lt hj])]
    unfold gi
    rw [List.getD_eq_getElem?_getD, List.getD_eq_getElem?_getD, List.getElem?_append_right (by simp; omega), List.getElem?_take, List.length_drop, if_pos (by omega)]
    congr 2
    omega
theorem turnL_perm (l : List Int) (b : Nat) : (turnL l b).Perm l := by
  rw [turnL_rot]
  refine List.perm_append_comm.trans ?_
  rw [List.take_append_drop]
theorem flipL_form (x : Int) (r : List Int) : flipL (x :: r) = x :: r.reverse := by
  refine ext_gD (by rw [flipL_len]; simp) (fun j hj => ?_)
  rw [flipL_len] at hj
  have key : ∀ i, i < (x :: r).length → ((x :: r).length - i) % (x :: r).length = j → gi (flipL (x :: r)) j = gi (x :: r) i := fun i hi he => by rw [← he]; exact flipL_at hi
  rw [List.length_cons] at hj
  by_cases h0 : j = 0
  · subst h0
    rw [key 0 (by simp) (by simp)]
    simp [gi]
  · obtain ⟨m, rfl⟩ : ∃ m, j = m + 1 := ⟨j - 1, by omega⟩
    rw [key (r.length - m) (by simp; omega) (by rw [flip_idx (by simp; omega), if_neg (by omega)]; simp; omega)]
    obtain ⟨n, hn⟩ : ∃ n, r.length - m = n + 1 := ⟨r.length - m - 1, by omega⟩
    rw [hn]
    simp only [gi, List.getD_cons_succ]
    rw [List.getD_eq_getElem?_getD, List.getD_eq_getElem?_getD, List.getElem?_reverse (by omega)]
    congr 2
    omega
theorem flipL_perm (l : List Int) : (flipL l).Perm l := by
  cases l with
  | nil => rw [List.length_eq_zero_iff.1 (flipL_len [])]
  | cons x r => rw [flipL_form]; exact (List.reverse_perm r).cons x
theorem flip_flip (l : List Int) : flipL (flipL l) = l := by
  cases l with
  | nil => rw [List.length_eq_zero_iff.1 (flipL_len []), List.length_eq_zero_iff.1 (flipL_len [])]
  | cons x r => rw [flipL_form, flipL_form, List.reverse_reverse]
theorem popS_sum (l : List Int) : popS l l.length = (l.map pop).sum := by
  have : ∀ k, k ≤ l.length → popS l k = ((l.take k).map pop).sum := by
    intro k
    induction k with
    | zero => simp [popS]
    | succ k ih =>
      intro h
      rw [popS, ih (by omega), take_succ_gi (show k < l.length by omega), List.map_append, List.sum_append]
      simp
  rw [this _ (Nat.le_refl _), List.take_length]
theorem popS_perm {l m : List Int} (h : l.Perm m) : popS l l.length = popS m m.length := by
  rw [popS_sum, popS_sum]
  induction h with
  | nil => rfl
  | cons x _ ih => simp only [List.map_cons, List.sum_cons, ih]
  | swap x y l => simp only [List.map_cons, List.sum_cons]; omega
  | trans _ _ i1 i2 => exact i1.trans i2
theorem discB_perm {r : Int} {l m : List Int} (h : l.Perm m) (hd : discB r m = true) : discB r l = true := by
  simp only [discB, Bool.and_eq_true, List.all_eq_true] at hd ⊢
  rw [h.length_eq]
  exact ⟨hd.1, fun x hx => hd.2 x (h.mem_iff.1 hx)⟩
/-! ## the pins of a disc -/
theorem bit_low (n k : Nat) : n % 2 ^ (k + 1) = n % 2 ^ k + 2 ^ k * (n / 2 ^ k % 2) := by
  rw [Nat.pow_succ, Nat.mod_mul]
theorem orF_nat {a k : Nat} (ha : a < 2 ^ k) (hk : k < 16) : orF (a : Int) (k : Int) = ((a + 2 ^ k : Nat) : Int) := by
  have h16 : 2 ^ k ≤ 2 ^ 15 := Nat.pow_le_pow_right (by omega) (by omega)
  have e1 : wrap64 (2 ^ ((k : Int)).toNat) = ((2 ^ k : Nat) : Int) := by
    rw [Int.toNat_natCast, show ((2 : Int) ^ k) = ((2 ^ k : Nat) : Int) by simp, IntWalk.wrap64_in _ (by omega)]
  unfold orF
  rw [e1]
  show IntKind.i64.wrap ((BitVec.ofInt 64 (a : Int) ||| BitVec.ofInt 64 ((2 ^ k : Nat) : Int)).toNat : Int) = _
  rw [BitVec.toNat_or, BitVec.ofInt_natCast, BitVec.ofInt_natCast, BitVec.toNat_ofNat, BitVec.toNat_ofNat, Nat.mod_eq_of_lt (by omega), Nat.mod_eq_of_lt (by omega), IntKind.wrap_i64]
  have e2 : a ||| 2 ^ k = a + 2 ^ k := by
    have := Nat.two_pow_add_eq_or_of_lt ha 1
    rw [Nat.mul_one] at this
    rw [Nat.or_comm, ← this, Nat.add_comm]
  rw [e2]
  omega
def putP (D : List Int) (p : Int × Int) : List Int := D.set p.2.toNat (orF (gi D p.2.toNat) p.1)
theorem disN_fold (n : Nat) (l : List (Int × Int)) (k : Nat) (hk : k ≤ l.length) : disN n l k = (l.take k).foldl putP (List.replicate n 0) := by
  induction k with
  | zero => simp [disN]
  | succ k ih =>
    have e : l.take (k + 1) = l.take k ++ [gP l k] := by
      rw [List.take_succ_eq_append_getElem (show k < l.length by omega)]
      simp [gP, show k < l.length by omega]
    rw [disN, e, List.foldl_append, ← ih (by omega)]
    rfl
theorem mem_fold (D : List Int) (n a k : Nat) (hn : n < 65536) (hk : k ≤ 16) (ha : a < D.length) (h0 : gi D a = 0) : (tagN (memN (n : Int) k) a).foldl putP D = D.set a ((n % 2 ^ k : Nat) : Int) := by
  induction k with
  | zero =>
    simp only [memN, tagN, List.map_nil, List.foldl_nil, Nat.pow_zero, Nat.mod_one]
    refine ext_gD (by simp) (fun j hj => ?_)
    by_cases e : j = a
    · subst e; rw [gi_set_same _ ha, h0]; rfl
    · rw [gi_set_off _ (fun h => e h.symm)]
  | succ k ih =>
    have hb := bitI_nat n k hn
    have hl := bit_low n k
    have h2 : n / 2 ^ k % 2 < 2 := Nat.mod_lt _ (by omega)
    by_cases hbit : n / 2 ^ k % 2 = 1
    · rw [memN_yes (by rw [hb, hbit]; rfl)]
      have e : tagN (memN (n : Int) k ++ [(k : Int)]) a = tagN (memN (n : Int) k) a ++ [((k : Int), (a : Int))] := by simp [tagN]
      rw [e, List.foldl_append, ih (by omega)]
      simp only [List.foldl_cons, List.foldl_nil, putP, Int.toNat_natCast]
      rw [gi_set_same _ ha, orF_nat (Nat.mod_lt _ (Nat.two_pow_pos k)) (by omega), List.set_set, hl, hbit, Nat.mul_one]
    · rw [memN_no (by rw [hb]; omega), ih (by omega), hl, show n / 2 ^ k % 2 = 0 by omega, Nat.mul_zero, Nat.add_zero]
theorem cod_fold {r : Nat} {l : List Int} (hr : r ≤ 16) (hs : ∀ x ∈ l, 0 ≤ x ∧ x ≤ 2 ^ r - 1) (k : Nat) (hk : k ≤ l.length) : (codN r l k).foldl putP (List.replicate l.length 0) = l.take k ++ List.replicate (l.length - k) 0 := by
  have h16 : (2 : Nat) ^ r ≤ 2 ^ 16 := Nat.pow_le_pow_right (by omega) hr
  have hp : ((2 : Int) ^ r) = ((2 ^ r : Nat) : Int) := by simp
  induction k with
  | zero => simp [codN]
  | succ k ih =>
    obtain ⟨x0, x1⟩ := hs _ (gi_mem (show k < l.length by omega))
    obtain ⟨n, hn⟩ := Int.eq_ofNat_of_zero_le x0
    rw [hn, hp] at x1
    have hnl : n < 2 ^ r := by have := Nat.two_pow_pos r; omega
    rw [codN, List.foldl_append, ih (by omega), hn, mem_fold _ n k r (by omega) hr (by simp; omega) (by rw [show l.length - k = (l.length - (k + 1)) + 1 by omega, List.replicate_succ]; simp [gi, List.getElem?_append_right, show min k l.length = k by omega]), Nat.mod_eq_of_lt hnl, ← hn, take_succ_gi (show k < l.length by omega)]
    rw [show l.length - k = (l.length - (k + 1)) + 1 by omega, List.replicate_succ]
    have hlen : (l.take k).length = k := by simp; omega
    rw [List.set_append_right _ _ (by omega), hlen, Nat.sub_self, List.set_cons_zero, List.append_assoc]
    rfl
theorem popN_mem (n k : Nat) (h : n < 65536) : popN (n : Int) k = ((memN (n : Int) k).length : Int) := by
  induction k with
  | zero => rfl
  | succ k ih =>
    have hb := bitI_nat n k h
    have h2 : n / 2 ^ k % 2 < 2 := Nat.mod_lt _ (by omega)
    by_cases hbit : n / 2 ^ k % 2 = 1
    · rw [memN_yes (by rw [hb, hbit]; rfl), popN, ih, hb, hbit, List.length_append]; rfl
    · rw [memN_no (by rw [hb]; omega), popN, ih, hb, show n / 2 ^ k % 2 = 0 by omega]; simp
theorem popN_up {n r k : Nat} (hn : n < 2 ^ r) (h : n < 65536) (hk : r ≤ k) : popN (n : Int) k = popN (n : Int) r := by
  induction k with
  | zero => rw [show r = 0 by omega]
  | succ k ih =>
    by_cases e : r = k + 1
    · rw [e]
    · rw [popN, ih (by omega), bitI_nat n k h, Nat.div_eq_of_lt (Nat.lt_of_lt_of_le hn (Nat.pow_le_pow_right (by omega) (by omega)))]
      simp
/-- the pins behind the first a slots, in order -/
theorem gP_app (A B : List (Int × Int)) (k : Nat) : gP (A ++ B) k = if k < A.length then gP A k else gP B (k - A.length) := by
  unfold gP
  split
  · rename_i h; simp [List.getElem?_append_left h]
  · rename_i h; simp [List.getElem?_append_right (by omega : A.length ≤ k)]
theorem memN_rise (x : Int) (k : Nat) : ∀ j, j < (memN x k).length → (0 ≤ gi (memN x k) j ∧ gi (memN x k) j < k) ∧ (0 < j → gi (memN x k) (j - 1) < gi (memN x k) j) := by
  induction k with
  | zero => intro j h; simp [memN] at h
  | succ k ih =>
    intro j hj
    by_cases hb : bitI x k = 1
    · rw [memN_yes hb] at hj ⊢
      rw [List.length_append, List.length_singleton] at hj
      have g : ∀ i, gi (memN x k ++ [(k : Int)]) i = if i < (memN x k).length then gi (memN x k) i else if i = (memN x k).length then (k : Int) else 0 := by
        intro i
        unfold gi
        by_cases h1 : i < (memN x k).length
        · rw [if_pos h1, List.getD_eq_getElem?_getD, List.getElem?_append_left h1, ← List.getD_eq_getElem?_getD]
        · rw [if_neg h1, List.getD_eq_getElem?_getD, List.getElem?_append_right (by omega)]
          by_cases h2 : i = (memN x k).length
          · rw [if_pos h2, h2, Nat.sub_self]; rfl
          · rw [if_neg h2, List.getElem?_eq_none (by simp; omega)]; rfl
      rw [g j, g (j - 1)]
      by_cases hjl : j < (memN x k).length
      · have := ih j hjl
        rw [if_pos hjl, if_pos (by omega)]
        exact ⟨⟨this.1.1, by have := this.1.2; omega⟩, this.2⟩
      · rw [if_neg hjl, if_pos (by omega)]
        refine ⟨by omega, fun h => ?_⟩
        rw [if_pos (by omega)]
        have := (ih (j - 1) (by omega)).1.2
        exact this
    · rw [memN_no hb] at hj ⊢
      have := ih j hj
      exact ⟨⟨this.1.1, by have := this.1.2; omega⟩, this.2⟩
theorem tagN_at {m : List Int} {a j : Nat} (h : j < m.length) : gP (tagN m a) j = (gi m j, (a : Int)) := by simp [gP, tagN, gi, h]
theorem cod_ok {r : Nat} {l : List Int} (a : Nat) : ∀ k, k < (codN r l a).length → ((0 ≤ (gP (codN r l a) k).1 ∧ (gP (codN r l a) k).1 ≤ (r : Int) - 1) ∧ (0 ≤ (gP (codN r l a) k).2 ∧ (gP (codN r l a) k).2 ≤ (a : Int) - 1)) ∧ (k = 0 ∨ ltP (gP (codN r l a) (k - 1)) (gP (codN r l a) k) = true) := by
  induction a with
  | zero => intro k h; simp [codN] at h
  | succ a ih =>
    intro k hk
    rw [codN] at hk ⊢
    rw [List.length_append, tagN_len] at hk
    rw [gP_app]
    by_cases h1 : k < (codN r l a).length
    · rw [if_pos h1, gP_app, if_pos (show k - 1 < (codN r l a).length by omega)]
      have := ih k h1
      refine ⟨⟨this.1.1, this.1.2.1, by have := this.1.2.2; omega⟩, this.2⟩
    · rw [if_neg h1]
      have hm := memN_rise (gi l a) r (k - (codN r l a).length) (by omega)
      rw [tagN_at (show k - (codN r l a).length < (memN (gi l a) r).length by omega)]
      refine ⟨⟨⟨hm.1.1, by have := hm.1.2; show gi _ _ ≤ _; omega⟩, ⟨by show (0 : Int) ≤ (a : Int); omega, by show (a : Int) ≤ _; omega⟩⟩, ?_⟩
      by_cases h0 : k = 0
      · exact .inl h0
      · refine .inr ?_
        rw [gP_app]
        by_cases h2 : k - 1 < (codN r l a).length
        · rw [if_pos h2, ltP_iff]
          have := (ih (k - 1) h2).1.2.2
          exact .inl (by show (gP (codN r l a) (k - 1)).2 < (a : Int); omega)
        · rw [if_neg h2, ltP_iff]
          rw [show k - 1 - (codN r l a).length = k - (codN r l a).length - 1 by omega, tagN_at (show k - (codN r l a).length - 1 < (memN (gi l a) r).length by omega)]
          exact .inr ⟨rfl, hm.2 (by omega)⟩
theorem cod_len {r : Nat} {l : List Int} (hr : r ≤ 16) (hs : ∀ x ∈ l, 0 ≤ x ∧ x ≤ 2 ^ r - 1) (k : Nat) (hk : k ≤ l.length) : ((codN r l k).length : Int) = popS l k := by
  have h16 : (2 : Nat) ^ r ≤ 2 ^ 16 := Nat.pow_le_pow_right (by omega) hr
  have hp : ((2 : Int) ^ r) = ((2 ^ r : Nat) : Int) := by simp
  induction k with
  | zero => rfl
  | succ k ih =>
    obtain ⟨x0, x1⟩ := hs _ (gi_mem (show k < l.length by omega))
    obtain ⟨n, hn⟩ := Int.eq_ofNat_of_zero_le x0
    rw [hn, hp] at x1
    have hnl : n < 2 ^ r := by have := Nat.two_pow_pos r; omega
    rw [codN, List.length_append, tagN_len, popS, ← ih (by omega), hn, pop, popN_up hnl (by omega) hr, popN_mem n r (by omega)]
    simp
/-- the greatest count of the first k slots, as the law counts it -/
def mostN (r : Nat) (l : List Int) : Nat → Int
  | 0 => 0
  | k + 1 => max (mostN r l k) (popN (gi l k) r)
theorem mostN_bd (r : Nat) (l : List Int) (k : Nat) : 0 ≤ mostN r l k ∧ mostN r l k ≤ r := by
  induction k with
  | zero => simp [mostN]
  | succ k ih =>
    have := popN_bd (gi l k) r
    simp only [mostN]
    omega
theorem mostN_ge {r : Nat} {l : List Int} {j k : Nat} (h : j < k) : popN (gi l j) r ≤ mostN r l k := by
  induction k with
  | zero => omega
  | succ k ih =>
    rw [mostN]
    by_cases e : j = k
    · subst e; omega
    · have := ih (by omega); omega
theorem mostN_hit (r : Nat) (l : List Int) (k : Nat) : mostN r l k = 0 ∨ ∃ j, j < k ∧ popN (gi l j) r = mostN r l k := by
  induction k with
  | zero => exact .inl rfl
  | succ k ih =>
    rw [mostN]
    by_cases h : mostN r l k ≤ popN (gi l k) r
    · exact .inr ⟨k, by omega, by omega⟩
    · rcases ih with h0 | ⟨j, hj, he⟩
      · have := popN_bd (gi l k) r; omega
      · exact .inr ⟨j, by omega, by omega⟩
/-- a drawn disc -/
def drD (r : Nat) (l : List Int) : Prop := ∀ x ∈ l, 0 ≤ x ∧ x ≤ 2 ^ r - 1
structure DiscsL (r : Nat) (l : List Int) (b : Int) : Prop where
  ok : discB (r : Int) l = true
  c0 : 0 ≤ countF r l ∧ countF r l ≤ 2000
  cb : codB r l = decide (countF r l ≤ 100)
  e1 : codB r l = true → codS r l = l.length ∧ codR r l = r ∧ dofB (codS r l) (codR r l) (codL r l) = true ∧ dofL (codS r l) (codR r l) (codL r l) = l ∧ dofR (codS r l) (codR r l) (codL r l) = r ∧ ((codL r l).length : Int) = countF r l
  tl : (turnF r l b).length = l.length
  fl : (flipF r l).length = l.length
  ta : ∀ a : Nat, a < l.length → gi (turnF r l b) ((a + b.toNat) % l.length) = gi l a
  fa : ∀ a : Nat, a < l.length → gi (flipF r l) ((l.length - a) % l.length) = gi l a
  ff : flipF r (flipF r l) = l
  ct : countF r (turnF r l b) = countF r l
  cf : countF r (flipF r l) = countF r l
  s1 : safeB r l (mostN r l l.length) = true
  s2 : safeB r l (mostN r l l.length - 1) = false
  td : discB r (turnF r l b) = true
theorem discs_law {r : Nat} {l : List Int} {b : Int} (r1 : 1 ≤ r) (r8 : r ≤ 8) (l4 : 4 ≤ l.length) (l17 : l.length ≤ 17) (hd : drD r l) (b0 : 0 ≤ b) (b9 : b ≤ 1000) : DiscsL r l b := by
  have h16 : (2 : Nat) ^ r ≤ 2 ^ 16 := Nat.pow_le_pow_right (by omega) (by omega)
  have hp : ((2 : Int) ^ r) = ((2 ^ r : Nat) : Int) := by simp
  have ok : discB (r : Int) l = true := by
    simp only [discB, Bool.and_eq_true, List.all_eq_true]
    exact ⟨⟨inB_yes (by omega) (by omega), inB_yes (by omega) (by omega)⟩, fun x hx => by have := hd x hx; exact inB_yes this.1 (by rw [Int.toNat_natCast]; exact this.2)⟩
  have hT : turnF r l b = turnL l b.toNat := by simp [turnF, ok, inB_yes b0 b9]
  have hF : ∀ m, discB r m = true → flipF r m = flipL m := fun m h => by simp [flipF, h]
  have okT : discB r (turnL l b.toNat) = true := discB_perm (turnL_perm _ _) ok
  have okF : discB r (flipL l) = true := discB_perm (flipL_perm _) ok
  have hC : ∀ m, discB r m = true → countF r m = popS m m.length := fun m h => by simp [countF, h]
  have hpop : ∀ j, j < l.length → pop (gi l j) = popN (gi l j) r := fun j hj => by
    obtain ⟨x0, x1⟩ := hd _ (gi_mem hj)
    obtain ⟨n, hn⟩ := Int.eq_ofNat_of_zero_le x0
    rw [hn, hp] at x1
    have hnl : n < 2 ^ r := by have := Nat.two_pow_pos r; omega
    rw [hn, pop, popN_up hnl (by omega) (by omega)]
  have hpos : 0 ≤ mostN r l l.length := (mostN_bd r l l.length).1
  refine ⟨ok, ?_, by simp [codB, ok], fun hb => ?_, turnF_len _ _ _, flipF_len _ _, fun a ha => by rw [hT]; exact turnL_at ha, fun a ha => by rw [hF l ok]; exact flipL_at ha, by rw [hF l ok, hF _ okF, flip_flip], by rw [hT, hC _ okT, hC _ ok]; exact popS_perm (turnL_perm _ _), by rw [hF l ok, hC _ okF, hC _ ok]; exact popS_perm (flipL_perm _), ?_, ?_, by rw [hT]; exact okT⟩
  · rw [hC l ok]
    have := popS_bd l l.length
    omega
  · have hS : codS r l = l.length := by simp [codS, hb]
    have hR : codR r l = r := by simp [codR, hb]
    have hL : codL r l = codN r l l.length := by simp [codL, hb]
    have hn := cod_len (l := l) (show r ≤ 16 by omega) hd l.length (Nat.le_refl _)
    have h100 : countF r l ≤ 100 := by simpa [codB, ok] using hb
    rw [hC l ok] at h100 ⊢
    have hok : okP (l.length : Int) (r : Int) (codN r l l.length) (codN r l l.length).length = true := okP_all fun k hk => by
      have := cod_ok (r := r) (l := l) l.length k hk
      exact spB_iff.2 ⟨pinB_iff.2 this.1, this.2⟩
    have hdB : dofB (l.length : Int) (r : Int) (codN r l l.length) = true := by
      simp only [dofB, cylB, Bool.and_eq_true, decide_eq_true_eq]
      exact ⟨⟨⟨⟨inB_yes (by omega) (by omega), inB_yes (by omega) (by omega)⟩, by omega⟩, hok⟩, by omega⟩
    rw [hS, hR, hL]
    refine ⟨rfl, rfl, hdB, ?_, by simp [dofR, hdB], hn⟩
    rw [dofL, if_pos hdB, Int.toNat_natCast, disN_fold _ _ _ (Nat.le_refl _), List.take_length, cod_fold (show r ≤ 16 by omega) hd l.length (Nat.le_refl _), List.take_length, Nat.sub_self]
    simp
  · simp only [safeB, ok, Bool.true_and, List.all_eq_true, decide_eq_true_eq]
    intro x hx
    obtain ⟨j, hj, rfl⟩ := List.getElem_of_mem hx
    rw [← gi_eq hj, hpop j hj]
    exact mostN_ge hj
  · cases hs : safeB r l (mostN r l l.length - 1) with
    | false => rfl
    | true =>
      exfalso
      simp only [safeB, ok, Bool.true_and, List.all_eq_true, decide_eq_true_eq] at hs
      rcases mostN_hit r l l.length with h0 | ⟨j, hj, he⟩
      · have := hs _ (gi_mem (show 0 < l.length by omega))
        have := pop_bd (gi l 0)
        omega
      · have := hs _ (gi_mem hj)
        rw [hpop j hj] at this
        omega
end Go.Proofs.Ytoijjjaodfincaa
