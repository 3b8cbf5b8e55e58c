/- Check digits: areDigits, CheckDigit, IsChecked of the program and of the reference return the same; lengths up to 2^20. -/
import Derived.Test.YtoijjjaodfincaaData
namespace Go.Proofs.Ytoijjjaodfincaa
open Go.RowKit

def dig9 (d : Int) : Bool := inB d 0 9
def okD (l : List Int) (a b : Int) : Bool := inB l.length a b && l.all dig9
set_option maxHeartbeats 400000 in
theorem areDigits_any (v : Value) (l : List Int) (a b : Int) (w : World) (h1 : RdI w v l) (hl : l.length ≤ 1048576) :
    Calls Try.prog 79 #[v, .int .i64 a, .int .i64 b] w fun e w' => e = .returned (.bool (okD l a b)) ∧ w = w' := by
  obtain ⟨A1, c1, rfl, _, _⟩ := h1.form
  cases hi : inB l.length a b
  · go_enter Try.func79, Try.ntmps79
    go_wp2_with (go_at_call 68; refine (within_any _ _ _ _).mono ?_; rintro e w' ⟨rfl, rfl⟩)
    go_ret
    exact ⟨ret_bool (by simp [okD, hi]), rfl⟩
  · go_enter Try.func79, Try.ntmps79
    go_wp2_with (go_at_call 68; refine (within_any _ _ _ _).mono ?_; rintro e w' ⟨rfl, rfl⟩)
    go_loop [17] (fun i => ∃ k : Nat, k ≤ l.length ∧ i = .int .i64 k ∧ (l.take k).all dig9 = true) (fun i => l.length - (intOf i).toNat)
    case atStart => exact ⟨0, Nat.zero_le _, rfl, by simp⟩
    case round =>
      obtain ⟨k, hk, rfl, ha⟩ := hrel
      have HA := Lib.hid ha
      clear ha
      by_cases hlt : k < l.length
      · obtain ⟨g, o, rfl, hb, q1⟩ := h1.look (by omega)
        have e1 := q1 k _ (cI_get hlt)
        clear q1 h1
        cases hp : inB (gi l k) 0 9
        · go_wp2_with (go_at_call 68; refine (within_any _ _ _ _).mono ?_; rintro e w' ⟨rfl, rfl⟩)
          go_ret
          exact ⟨ret_bool (by simp [okD, all_no (P := dig9) hlt hp]), rfl⟩
        · go_wp2_with (go_at_call 68; refine (within_any _ _ _ _).mono ?_; rintro e w' ⟨rfl, rfl⟩)
          go_round
          case rel => exact ⟨k + 1, by omega, by go_num, by rw [all_take_succ hlt, HA.out, Bool.true_and]; exact hp⟩
          case measure => simp [intOf]; omega
      · go_wp2
        go_ret
        exact ⟨ret_bool (by have := HA.out; rw [List.take_of_length_le (by omega)] at this; simp [okD, hi, this]), rfl⟩

set_option maxHeartbeats 400000 in
theorem l33Ok_any (v : Value) (l : List Int) (a b : Int) (w : World) (h1 : RdI w v l) (hl : l.length ≤ 1048576) :
    Calls Try.prog 77 #[v, .int .i64 a, .int .i64 b] w fun e w' => e = .returned (.bool (okD l a b)) ∧ w = w' := by
  obtain ⟨A1, c1, rfl, _, _⟩ := h1.form
  go_enter Try.func77, Try.ntmps77
  go_wp2
  go_loop [7] (fun i => ∃ k : Nat, k ≤ l.length ∧ i = .int .i64 k ∧ (l.take k).all dig9 = true) (fun i => l.length - (intOf i).toNat)
  case atStart => exact ⟨0, Nat.zero_le _, rfl, by simp⟩
  case round =>
    obtain ⟨k, hk, rfl, ha⟩ := hrel
    have HA := Lib.hid ha
    clear ha
    by_cases hlt : k < l.length
    · obtain ⟨g, o, rfl, hb, q1⟩ := h1.look (by omega)
      have e1 := q1 k _ (cI_get hlt)
      clear q1 h1
      cases hp : inB (gi l k) 0 9
      · go_wp2_with (go_at_call 67; refine (l01In_any _ _ _ _).mono ?_; rintro e w' ⟨rfl, rfl⟩)
        go_ret
        exact ⟨ret_bool (by simp [okD, all_no (P := dig9) hlt hp]), rfl⟩
      · go_wp2_with (go_at_call 67; refine (l01In_any _ _ _ _).mono ?_; rintro e w' ⟨rfl, rfl⟩)
        go_round
        case rel => exact ⟨k + 1, by omega, by go_num, by rw [all_take_succ hlt, HA.out, Bool.true_and]; exact hp⟩
        case measure => simp [intOf]; omega
    · go_wp2_with (go_at_call 67; refine (l01In_any _ _ _ _).mono ?_; rintro e w' ⟨rfl, rfl⟩)
      go_ret
      exact ⟨ret_bool (by have := HA.out; rw [List.take_of_length_le (by omega)] at this; simp [okD, this]), rfl⟩

/-- the sum of the first k digits, every other one three times -/
def dsum (l : List Int) : Nat → Int
  | 0 => 0
  | k + 1 => dsum l k + (if k % 2 = 0 then 3 * gi l k else gi l k)
theorem dsum_bd {l : List Int} (h : l.all dig9 = true) (k : Nat) (hk : k ≤ l.length) : 0 ≤ dsum l k ∧ dsum l k ≤ 27 * k := by
  induction k with
  | zero => exact ⟨Int.le_refl _, by simp [dsum]⟩
  | succ k ih =>
    obtain ⟨i1, i2⟩ := ih (by omega)
    obtain ⟨d1, d2⟩ := inB_iff.1 (all_at (P := dig9) (k := k) (by omega) h)
    unfold dsum
    split <;> omega
def ckF (l : List Int) : Int := if okD l 1 20 then (10 - dsum l l.length % 10) % 10 else -1
theorem okD_len {l : List Int} {a b : Int} (h : okD l a b = true) : a ≤ l.length ∧ l.length ≤ b := by
  simp only [okD, Bool.and_eq_true] at h
  exact inB_iff.1 h.1
theorem okD_all {l : List Int} {a b : Int} (h : okD l a b = true) : l.all dig9 = true := by
  simp only [okD, Bool.and_eq_true] at h
  exact h.2

set_option maxHeartbeats 400000 in
theorem ckI_any (v : Value) (l : List Int) (w : World) (h1 : RdI w v l) (hl : l.length ≤ 1048576) :
    Calls Try.prog 97 #[v] w fun e w' => e = .returned (.int .i64 (ckF l)) ∧ w = w' := by
  obtain ⟨A1, c1, rfl, _, _⟩ := h1.form
  cases ho : okD l 1 20
  · go_enter Try.func97, Try.ntmps97
    go_wp2_with (go_at_call 79; refine (areDigits_any _ l _ _ _ h1 hl).mono ?_; rintro e w' ⟨rfl, rfl⟩)
    go_ret
    exact ⟨ret_int (by simp [ckF, ho]), rfl⟩
  · obtain ⟨lo1, lo2⟩ := okD_len ho
    have hall := Lib.hid (okD_all ho)
    have HO := Lib.hid ho
    go_enter Try.func97, Try.ntmps97
    go_wp2_with (go_at_call 79; refine (areDigits_any _ l _ _ _ h1 hl).mono ?_; rintro e w' ⟨rfl, rfl⟩)
    go_loop [3, 11] (fun s i => ∃ k : Nat, k ≤ l.length ∧ i = .int .i64 k ∧ s = .int .i64 (dsum l k)) (fun _ i => l.length - (intOf i).toNat)
    case atStart => exact ⟨0, Nat.zero_le _, rfl, rfl⟩
    case round =>
      obtain ⟨k, hk, rfl, rfl⟩ := hrel
      obtain ⟨d1, d2⟩ := dsum_bd hall.out k hk
      by_cases hlt : k < l.length
      · obtain ⟨g, o, rfl, hb, q1⟩ := h1.look (by omega)
        have e1 := q1 k _ (cI_get hlt)
        obtain ⟨p1, p2⟩ := inB_iff.1 (all_at (P := dig9) hlt hall.out)
        have hs : dsum l (k + 1) = dsum l k + (if k % 2 = 0 then 3 * gi l k else gi l k) := rfl
        have HS := Lib.hid hs
        clear q1 h1 hs
        by_cases hp : (k : Int) % 2 = 0
        · have hp' : k % 2 = 0 := by omega
          go_wp2
          go_round
          case rel => exact ⟨k + 1, by omega, by go_num, by rw [HS.out, if_pos hp']⟩
          case measure => simp [intOf]; omega
        · have hp' : ¬ k % 2 = 0 := by omega
          have hq : ((k : Int) % 2 == 0) = false := by simpa using hp
          go_wp2
          go_round
          case rel => exact ⟨k + 1, by omega, by go_num, by rw [HS.out, if_neg hp']⟩
          case measure => simp [intOf]; omega
      · obtain rfl : k = l.length := by omega
        go_wp2
        go_ret
        exact ⟨ret_int (by simp only [ckF, HO.out, if_true]; omega), rfl⟩

set_option maxHeartbeats 400000 in
theorem ckS_any (v : Value) (l : List Int) (w : World) (h1 : RdI w v l) (hl : l.length ≤ 1048576) :
    Calls Try.prog 96 #[v] w fun e w' => e = .returned (.int .i64 (ckF l)) ∧ w = w' := by
  obtain ⟨A1, c1, rfl, _, _⟩ := h1.form
  cases ho : okD l 1 20
  · go_enter Try.func96, Try.ntmps96
    go_wp2_with (go_at_call 77; refine (l33Ok_any _ l _ _ _ h1 hl).mono ?_; rintro e w' ⟨rfl, rfl⟩)
    go_ret
    exact ⟨ret_int (by simp [ckF, ho]), rfl⟩
  · obtain ⟨lo1, lo2⟩ := okD_len ho
    have hall := Lib.hid (okD_all ho)
    have HO := Lib.hid ho
    go_enter Try.func96, Try.ntmps96
    go_wp2_with (go_at_call 77; refine (l33Ok_any _ l _ _ _ h1 hl).mono ?_; rintro e w' ⟨rfl, rfl⟩)
    go_loop [3, 4] (fun s i => ∃ k : Nat, k ≤ l.length ∧ i = .int .i64 k ∧ s = .int .i64 (dsum l k)) (fun _ i => l.length - (intOf i).toNat)
    case atStart => exact ⟨0, Nat.zero_le _, rfl, rfl⟩
    case round =>
      obtain ⟨k, hk, rfl, rfl⟩ := hrel
      obtain ⟨d1, d2⟩ := dsum_bd hall.out k hk
      by_cases hlt : k < l.length
      · obtain ⟨g, o, rfl, hb, q1⟩ := h1.look (by omega)
        have e1 := q1 k _ (cI_get hlt)
        obtain ⟨p1, p2⟩ := inB_iff.1 (all_at (P := dig9) hlt hall.out)
        have hs : dsum l (k + 1) = dsum l k + (if k % 2 = 0 then 3 * gi l k else gi l k) := rfl
        have HS := Lib.hid hs
        clear q1 h1 hs
        by_cases hp : (k : Int) % 2 = 0
        · have hp' : k % 2 = 0 := by omega
          go_wp2
          go_round
          case rel => exact ⟨k + 1, by omega, by go_num, by rw [HS.out, if_pos hp']⟩
          case measure => simp [intOf]; omega
        · have hp' : ¬ k % 2 = 0 := by omega
          have hq : ((k : Int) % 2 == 0) = false := by simpa using hp
          go_wp2
          go_round
          case rel => exact ⟨k + 1, by omega, by go_num, by rw [HS.out, if_neg hp']⟩
          case measure => simp [intOf]; omega
      · obtain rfl : k = l.length := by omega
        go_wp2
        go_ret
        exact ⟨ret_int (by simp only [ckF, HO.out, if_true]; omega), rfl⟩


theorem Rd.cut {w : World} {A : Option Addr} {n c : Nat} {xs : List Value} {m : Nat} (h : Rd w 1 (.slice A n c) n xs) (hm : m ≤ n) : Rd w 1 (.slice A m c) m (xs.take m) := by
  obtain ⟨h0, A', c', hv, h1, h2, h4, h3⟩ := h
  obtain ⟨rfl, _, rfl⟩ : A = A' ∧ n = n ∧ c = c' := by simpa using hv
  refine ⟨by rw [List.length_take]; omega, A, c, rfl, by omega, h2, h4, fun hn => ?_⟩
  obtain ⟨b, o, hA, hb, hc⟩ := h3 (by omega)
  refine ⟨b, o, hA, hb, fun j u hu => hc j u ?_⟩
  rw [List.getElem?_take] at hu
  split at hu
  · exact hu
  · cases hu
theorem RdI.cut {w : World} {A : Option Addr} {c : Nat} {l : List Int} {m : Nat} (h : RdI w (.slice A l.length c) l) (hm : m ≤ l.length) : RdI w (.slice A m c) (l.take m) := by
  have := Rd.cut h hm
  unfold RdI
  rw [List.length_take, Nat.min_eq_left hm, cI, List.map_take]
  exact this

def chkB (l : List Int) : Bool := decide (2 ≤ l.length) && decide (0 ≤ ckF (l.take (l.length - 1))) && (gi l (l.length - 1) == ckF (l.take (l.length - 1)))
theorem ckF_lo (l : List Int) : -1 ≤ ckF l ∧ ckF l ≤ 9 := by
  unfold ckF
  split <;> omega

set_option maxHeartbeats 400000 in
theorem isI_any (v : Value) (l : List Int) (w : World) (h1 : RdI w v l) (hl : l.length ≤ 1048576) :
    Calls Try.prog 81 #[v] w fun e w' => e = .returned (.bool (chkB l)) ∧ w = w' := by
  obtain ⟨A1, c1, rfl, hlc, hcm⟩ := h1.form
  unfold maxLen at hcm
  by_cases h2 : 2 ≤ l.length
  · obtain ⟨g, o, rfl, hb, q1⟩ := h1.look (by omega)
    have e1 := q1 (l.length - 1) _ (cI_get (by omega))
    have ht := h1.cut (m := l.length - 1) (by omega)
    have en : ((l.length : Int) - 1) = ((l.length - 1 : Nat) : Int) := by omega
    have en2 : ((l.length : Int) - 1).toNat = l.length - 1 := by omega
    have EN := Lib.hid en
    clear en q1 h1
    have ck := ckF_lo (l.take (l.length - 1))
    by_cases hd : 0 ≤ ckF (l.take (l.length - 1))
    · go_enter Try.func81, Try.ntmps81
      go_wp2_with (first | (go_at_call 97; refine (ckI_any _ _ _ ht (by rw [List.length_take]; omega)).mono ?_; rintro e w' ⟨rfl, rfl⟩) | go_in)
      go_ret
      exact ⟨ret_bool (by simp [chkB, h2, hd]), rfl⟩
    · have hd' : decide (0 ≤ ckF (l.take (l.length - 1))) = false := by simpa using hd
      go_enter Try.func81, Try.ntmps81
      go_wp2_with (first | (go_at_call 97; refine (ckI_any _ _ _ ht (by rw [List.length_take]; omega)).mono ?_; rintro e w' ⟨rfl, rfl⟩) | go_in)
      go_ret
      exact ⟨ret_bool (by simp only [chkB, hd', Bool.and_false, Bool.false_and]), rfl⟩
  · go_enter Try.func81, Try.ntmps81
    go_wp2
    go_ret
    exact ⟨ret_bool (by simp [chkB, h2]), rfl⟩

set_option maxHeartbeats 400000 in
theorem isS_any (v : Value) (l : List Int) (w : World) (h1 : RdI w v l) (hl : l.length ≤ 1048576) :
    Calls Try.prog 78 #[v] w fun e w' => e = .returned (.bool (chkB l)) ∧ w = w' := by
  obtain ⟨A1, c1, rfl, hlc, hcm⟩ := h1.form
  unfold maxLen at hcm
  by_cases h2 : 2 ≤ l.length
  · obtain ⟨g, o, rfl, hb, q1⟩ := h1.look (by omega)
    have e1 := q1 (l.length - 1) _ (cI_get (by omega))
    have ht := h1.cut (m := l.length - 1) (by omega)
    have en : ((l.length : Int) - 1) = ((l.length - 1 : Nat) : Int) := by omega
    have en2 : ((l.length : Int) - 1).toNat = l.length - 1 := by omega
    have EN := Lib.hid en
    clear en q1 h1
    have ck := ckF_lo (l.take (l.length - 1))
    by_cases hd : 0 ≤ ckF (l.take (l.length - 1))
    · go_enter Try.func78, Try.ntmps78
      go_wp2_with (first | (go_at_call 96; refine (ckS_any _ _ _ ht (by rw [List.length_take]; omega)).mono ?_; rintro e w' ⟨rfl, rfl⟩) | go_in)
      go_ret
      exact ⟨ret_bool (by simp [chkB, h2, hd]), rfl⟩
    · have hd' : decide (0 ≤ ckF (l.take (l.length - 1))) = false := by simpa using hd
      go_enter Try.func78, Try.ntmps78
      go_wp2_with (first | (go_at_call 96; refine (ckS_any _ _ _ ht (by rw [List.length_take]; omega)).mono ?_; rintro e w' ⟨rfl, rfl⟩) | go_in)
      go_ret
      exact ⟨ret_bool (by simp only [chkB, hd', Bool.and_false, Bool.false_and]), rfl⟩
  · go_enter Try.func78, Try.ntmps78
    go_wp2
    go_ret
    exact ⟨ret_bool (by simp [chkB, h2]), rfl⟩


end Go.Proofs.Ytoijjjaodfincaa
