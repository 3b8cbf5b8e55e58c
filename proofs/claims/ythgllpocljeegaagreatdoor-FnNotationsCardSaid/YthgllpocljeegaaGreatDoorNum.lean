/- Numerals and pieces of texts: what reads back, and what does not; no condition. -/
import Derived.Test.YthgllpocljeegaaGreatDoorFmt
import Derived.Lib.Itoa
import Derived.Lib.AtoiTie
import Derived.Lib.IndexMore
import Derived.Lib.SplitLaws
namespace Go.Proofs.YthgllpocljeegaaGreatDoor
open Go.Lib

theorem dec_lt {n : Nat} (h : n < 10) : decDigits n = [UInt8.ofNat (48 + n)] := by rw [decDigits, dif_pos h]
theorem dec_ge {n : Nat} (h : ¬ n < 10) : decDigits n = decDigits (n / 10) ++ [UInt8.ofNat (48 + n % 10)] := by rw [decDigits, dif_neg h]
/-- a digit -/
def dgB (b : UInt8) : Bool := decide (48 ≤ b.toNat ∧ b.toNat ≤ 57)
theorem dg_of {n : Nat} (h : n < 10) : (UInt8.ofNat (48 + n)).toNat = 48 + n := by
  rw [UInt8.toNat_ofNat']
  exact Nat.mod_eq_of_lt (by omega)
theorem dec_all (n : Nat) : (decDigits n).all dgB = true := by
  induction n using Nat.strongRecOn with
  | _ n ih =>
    by_cases h : n < 10
    · rw [dec_lt h]
      have := dg_of h
      simp only [List.all_cons, List.all_nil, Bool.and_true, dgB, decide_eq_true_eq]
      omega
    · rw [dec_ge h, List.all_append, ih (n / 10) (by omega)]
      have := dg_of (show n % 10 < 10 by omega)
      simp only [List.all_cons, List.all_nil, Bool.and_true, Bool.true_and, dgB, decide_eq_true_eq]
      omega
theorem dec_pos (n : Nat) : 0 < (decDigits n).length := by
  by_cases h : n < 10
  · rw [dec_lt h]; simp
  · rw [dec_ge h]; simp
/-- the number that the first k bytes spell -/
def valN (l : List UInt8) : Nat → Nat
  | 0 => 0
  | k + 1 => 10 * valN l k + ((l.getD k 0).toNat - 48)
theorem valN_append (a b : List UInt8) (k : Nat) (h : k ≤ a.length) : valN (a ++ b) k = valN a k := by
  induction k with
  | zero => rfl
  | succ k ih =>
    rw [valN, valN, ih (by omega)]
    have : (a ++ b).getD k 0 = a.getD k 0 := by simp [List.getElem?_append_left (show k < a.length by omega)]
    rw [this]
theorem valN_dec (n : Nat) : valN (decDigits n) (decDigits n).length = n := by
  induction n using Nat.strongRecOn with
  | _ n ih =>
    by_cases h : n < 10
    · rw [dec_lt h]
      have := dg_of h
      simp [valN]
      omega
    · rw [dec_ge h, List.length_append, List.length_singleton, valN, valN_append _ _ _ (Nat.le_refl _), ih (n / 10) (by omega)]
      have := dg_of (show n % 10 < 10 by omega)
      simp
      omega
theorem valN_lt {l : List UInt8} (hd : l.all dgB = true) (k : Nat) (h : k ≤ l.length) : valN l k < 10 ^ k := by
  induction k with
  | zero => simp [valN]
  | succ k ih =>
    have := ih (by omega)
    rw [List.all_eq_true] at hd
    have hb := hd _ (List.getElem_mem (show k < l.length by omega))
    simp only [dgB, decide_eq_true_eq] at hb
    rw [valN, Nat.pow_succ]
    have : l.getD k 0 = l[k] := by simp [show k < l.length by omega]
    rw [this]
    omega
theorem decFrom_append (a b : List UInt8) (acc : Nat) : decFrom acc (a ++ b) = (decFrom acc a).bind fun m => decFrom m b := by
  induction a generalizing acc with
  | nil => simp [decFrom]
  | cons x a ih =>
    rw [List.cons_append, decFrom, decFrom]
    cases digitVal x with
    | none => rfl
    | some d => simp [ih]
theorem decFrom_dec (n : Nat) : decFrom 0 (decDigits n) = some n := by
  induction n using Nat.strongRecOn with
  | _ n ih =>
    by_cases h : n < 10
    · rw [dec_lt h]
      have := dg_of h
      have hv : digitVal (UInt8.ofNat (48 + n)) = some n := by
        unfold digitVal
        rw [if_pos (by omega), this]
        congr 1
        omega
      simp only [decFrom, hv, Nat.zero_mul, Nat.zero_add]
    · rw [dec_ge h, decFrom_append, ih (n / 10) (by omega)]
      have := dg_of (show n % 10 < 10 by omega)
      have hv : digitVal (UInt8.ofNat (48 + n % 10)) = some (n % 10) := by
        unfold digitVal
        rw [if_pos (by omega), this]
        congr 1
        omega
      simp only [Option.bind_some, decFrom, hv, Option.some.injEq]
      omega
theorem dec_len {n : Nat} (h : n ≤ 4000000000) : (decDigits n).length ≤ 10 := by
  have : (fmtT n).size = (decDigits n).length := by simp [fmtT, ByteArray.size]
  by_cases h0 : n = 0
  · subst h0; rw [dec_lt (by omega)]; simp
  · rw [← this, fmtT_digT n h0]; exact digT_size 10 n (by omega)
theorem atoi_dec {n : Nat} (h : n ≤ 4000000000) : atoiAll (decDigits n) = .ok (n : Int) := by
  have hl := dec_len h
  rw [atoiAll_short _ (by omega)]
  have hp := dec_pos n
  have hd := dec_all n
  have hf := decFrom_dec n
  match hq : decDigits n with
  | [] => rw [hq] at hp; simp at hp
  | b :: r =>
    rw [hq] at hd hf
    simp only [List.all_cons, Bool.and_eq_true, dgB, decide_eq_true_eq] at hd
    have h45 : (b == 45) = false := by
      rw [beq_eq_false_iff_ne]; intro e; rw [e] at hd; have := hd.1.1; revert this; decide
    have h43 : (b == 43) = false := by
      rw [beq_eq_false_iff_ne]; intro e; rw [e] at hd; have := hd.1.1; revert this; decide
    have hn : decNat (b :: r) = some n := by simp [decNat, hf]
    rw [atoi, h45, h43, hn]
    rfl
theorem fmtT_data (n : Nat) : (fmtT n).data.toList = decDigits n := by simp [fmtT]
theorem fmtT_inj {m n : Nat} (h : fmtT m = fmtT n) : m = n := by
  have h2 : decDigits m = decDigits n := by rw [← fmtT_data, ← fmtT_data, h]
  rw [← valN_dec m, ← valN_dec n, h2]

/-! ## pieces -/
/-- the pieces between the bytes c -/
def spl (c : UInt8) : List UInt8 → List (List UInt8)
  | [] => [[]]
  | b :: r => if b = c then [] :: spl c r else
    match spl c r with
    | [] => [[b]]
    | x :: xs => (b :: x) :: xs
theorem spl_pos (c : UInt8) (l : List UInt8) : 0 < (spl c l).length := by
  cases l with
  | nil => simp [spl]
  | cons b r =>
    unfold spl
    split
    · simp
    · split <;> simp
theorem spl_none {c : UInt8} {l : List UInt8} (h : c ∉ l) : spl c l = [l] := by
  induction l with
  | nil => rfl
  | cons b r ih =>
    have hb : ¬ b = c := fun e => h (by simp [e])
    rw [spl, if_neg hb, ih (fun e => h (by simp [e]))]
theorem spl_hit {c : UInt8} {a r : List UInt8} (h : c ∉ a) : spl c (a ++ c :: r) = a :: spl c r := by
  induction a with
  | nil => rw [List.nil_append, spl, if_pos rfl]
  | cons b a ih =>
    have hb : ¬ b = c := fun e => h (by simp [e])
    rw [List.cons_append, spl, if_neg hb, ih (fun e => h (by simp [e]))]
theorem spl_join (c : UInt8) (l : List UInt8) : [c].intercalate (spl c l) = l := by
  induction l with
  | nil => rfl
  | cons b r ih =>
    rw [spl]
    split
    · rename_i h
      have hp := spl_pos c r
      match hq : spl c r with
      | [] => rw [hq] at hp; simp at hp
      | x :: xs => rw [hq] at ih; rw [List.intercalate_cons_cons, ih, h]; rfl
    · have hp := spl_pos c r
      match hq : spl c r with
      | [] => rw [hq] at hp; simp at hp
      | x :: xs =>
        rw [hq] at ih
        cases xs with
        | nil => simp [List.intercalate] at ih ⊢; exact ih
        | cons y ys => rw [List.intercalate_cons_cons] at ih ⊢; rw [List.cons_append, List.cons_append, ih]
/-- no piece has the byte -/
theorem spl_no (c : UInt8) (l : List UInt8) : ∀ p ∈ spl c l, c ∉ p := by
  induction l with
  | nil => intro p hp; simp [spl] at hp; subst hp; simp
  | cons b r ih =>
    intro p hp
    rw [spl] at hp
    split at hp
    · rw [List.mem_cons] at hp
      rcases hp with rfl | hp
      · simp
      · exact ih p hp
    · rename_i hb
      match hq : spl c r with
      | [] => rw [hq] at hp; simp at hp; subst hp; simp; exact fun e => hb e.symm
      | x :: xs =>
        rw [hq] at hp
        simp only [List.mem_cons] at hp
        rcases hp with rfl | hp
        · have := ih x (by rw [hq]; simp)
          simp only [List.mem_cons, not_or]
          exact ⟨fun e => hb e.symm, this⟩
        · exact ih p (by rw [hq]; simp [hp])
theorem idx_split {l : List UInt8} {c : UInt8} : (index l [c] = -1 ∧ c ∉ l) ∨ ∃ a r, l = a ++ c :: r ∧ c ∉ a ∧ index l [c] = a.length := by
  rw [index_one]
  by_cases h : indexByte l c = -1
  · refine .inl ⟨h, fun hm => ?_⟩
    obtain ⟨k, hk, he⟩ := List.getElem_of_mem hm
    exact indexByte_none h k (by rw [List.getElem?_eq_getElem hk, he])
  · have hge := indexByte_ge l c
    obtain ⟨o, ho⟩ := Int.eq_ofNat_of_zero_le (show 0 ≤ indexByte l c by omega)
    obtain ⟨h1, h2⟩ := indexByte_some ho
    obtain ⟨hol, hoe⟩ := List.getElem?_eq_some_iff.1 h1
    refine .inr ⟨l.take o, l.drop (o + 1), ?_, ?_, ?_⟩
    · rw [← hoe, ← List.drop_eq_getElem_cons hol, List.take_append_drop]
    · intro hm
      obtain ⟨k, hk, he⟩ := List.getElem_of_mem hm
      rw [List.length_take] at hk
      rw [List.getElem_take] at he
      exact h2 k (by omega) (by rw [List.getElem?_eq_getElem (by omega), he])
    · rw [ho, List.length_take]; omega
def baL (l : List UInt8) : ByteArray := ⟨l.toArray⟩
theorem baL_data (l : List UInt8) : (baL l).data.toList = l := by simp [baL]
theorem baL_of (s : ByteArray) : baL s.data.toList = s := ba_ext (baL_data _)
theorem baL_size (l : List UInt8) : (baL l).size = l.length := by simp [baL, ByteArray.size]
theorem extract_data (s : ByteArray) (a b : Nat) : (s.extract a b).data.toList = (s.data.toList.drop a).take (b - a) := by
  rw [ByteArray.data_extract, Array.toList_extract, List.extract_eq_take_drop]
theorem splitB_spl (c : UInt8) (sep : ByteArray) (hsep : sep.data.toList = [c]) : ∀ (k : Nat) (s : ByteArray), countB s sep = k → splitB sep 0 k s = (spl c s.data.toList).map baL := by
  have hs1 : sep.size = 1 := by have h := congrArg List.length hsep; rw [Array.length_toList] at h; exact h
  intro k
  induction k with
  | zero =>
    intro s h
    rcases idx_split (l := s.data.toList) (c := c) with ⟨h1, h2⟩ | ⟨a, r, h1, h2, h3⟩
    · rw [splitB_zero, spl_none h2]; simp [baL_of]
    · have := countB_hit s sep a.length (by omega) (by show index _ _ = _; rw [hsep]; exact h3)
      omega
  | succ k ih =>
    intro s h
    rcases idx_split (l := s.data.toList) (c := c) with ⟨h1, h2⟩ | ⟨a, r, h1, h2, h3⟩
    · have := countB_miss s sep (by show index _ _ = _; rw [hsep]; exact h1)
      omega
    · have hi : indexB s sep = (a.length : Nat) := by show index _ _ = _; rw [hsep]; exact h3
      have hc := countB_hit s sep a.length (by omega) hi
      have hsz : s.size = a.length + 1 + r.length := by have h := congrArg List.length h1; rw [Array.length_toList, List.length_append, List.length_cons] at h; have h' : s.size = s.data.size := rfl; omega
      have e2 : (s.extract (a.length + sep.size) s.size).data.toList = r := by
        rw [extract_data, h1, hs1, hsz, List.drop_append, List.drop_of_length_le (by omega)]
        rw [show a.length + 1 - a.length = 1 by omega, List.drop_succ_cons, List.drop_zero, List.nil_append, List.take_of_length_le (by omega)]
      rw [splitB_hit sep 0 k s a.length hi, ih _ (by omega), e2, h1, spl_hit h2, List.map_cons]
      congr 1
      apply ba_ext
      rw [extract_data, h1, baL_data]
      simp
theorem cut_one (c : UInt8) (l : List UInt8) : (c ∉ l ∧ cut l [c] = (l, [], false)) ∨ ∃ a r, l = a ++ c :: r ∧ c ∉ a ∧ cut l [c] = (a, r, true) := by
  rcases idx_split (l := l) (c := c) with ⟨h1, h2⟩ | ⟨a, r, h1, h2, h3⟩
  · refine .inl ⟨h2, ?_⟩
    unfold cut
    rw [h1, if_neg (by omega)]
  · refine .inr ⟨a, r, h1, h2, ?_⟩
    unfold cut
    rw [h3, if_pos (by omega), h1]
    simp
theorem dec_no (n : Nat) (c : UInt8) (h : ¬ (48 ≤ c.toNat ∧ c.toNat ≤ 57)) : c ∉ decDigits n := by
  intro hm
  have := dec_all n
  rw [List.all_eq_true] at this
  have := this _ hm
  simp only [dgB, decide_eq_true_eq] at this
  exact h this
end Go.Proofs.YthgllpocljeegaaGreatDoor
