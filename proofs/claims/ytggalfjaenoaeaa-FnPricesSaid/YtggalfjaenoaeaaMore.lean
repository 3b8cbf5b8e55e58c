/- MoreForLess of the program and of the reference return one list; no condition. -/
import Derived.Test.YtggalfjaenoaeaaDiscount
import Derived.Test.YtggalfjaenoaeaaData
namespace Go.Proofs.Ytggalfjaenoaeaa
open Go.RowKit

/-- some count from n+1 to n+j costs less than n -/
def lessB (p : Int) (n : Nat) : Nat → Bool
  | 0 => false
  | j + 1 => lessB p n j || decide (discF p ((n + 1 + j : Nat) : Int) < discF p n)
/-- the numbers from 1 to n-1 at which a greater one up to 100 costs less -/
def mflN (p : Int) : Nat → List Int
  | 0 => []
  | n + 1 => if 0 < n ∧ lessB p n (100 - n) = true then mflN p n ++ [(n : Int)] else mflN p n
theorem mflN_len (p : Int) (n : Nat) : (mflN p n).length ≤ n := by
  induction n with
  | zero => simp [mflN]
  | succ k ih =>
    unfold mflN
    split
    · rw [List.length_append]; simp; omega
    · omega
theorem lessB_mono (p : Int) (n j : Nat) (h : lessB p n j = true) (i : Nat) : lessB p n (j + i) = true := by
  induction i with
  | zero => exact h
  | succ i ih => rw [← Nat.add_assoc]; simp [lessB, ih]
theorem lessB_hit {p : Int} {n m : Nat} (h1 : n + 1 ≤ m) (h2 : m ≤ 100) (h : discF p m < discF p n) : lessB p n (100 - n) = true := by
  have e : lessB p n ((m - n - 1) + 1) = true := by simp [lessB, show n + 1 + (m - n - 1) = m from by omega, h]
  have := lessB_mono p n _ e (100 - m)
  rwa [show m - n - 1 + 1 + (100 - m) = 100 - n from by omega] at this
theorem lessB_miss {p : Int} {n m : Nat} (h1 : n + 1 ≤ m) (h : ¬ discF p m < discF p n) (hf : lessB p n (m - n - 1) = false) : lessB p n (m + 1 - n - 1) = false := by
  rw [show m + 1 - n - 1 = (m - n - 1) + 1 from by omega]
  simp only [lessB, hf, show n + 1 + (m - n - 1) = m from by omega, Bool.false_or]
  simpa using h
theorem mflN_hit {p : Int} {n : Nat} (h0 : 0 < n) (h : lessB p n (100 - n) = true) : mflN p (n + 1) = mflN p n ++ [(n : Int)] := by simp [mflN, h0, h]
theorem mflN_miss {p : Int} {n : Nat} (h : lessB p n (100 - n) = false) : mflN p (n + 1) = mflN p n := by simp [mflN, h]
def mflF (p : Int) : List Int := if inB p 1 10000 then mflN p 100 else []

def MoreIn (p : Int) (n : Nat) (v s i : Value) : Prop := s = v ∧ ∃ m : Nat, n + 1 ≤ m ∧ m ≤ 101 ∧ i = .int .i64 m ∧ lessB p n (m - n - 1) = false

set_option maxHeartbeats 800000 in
theorem moreI_any (p : Int) (w : World) : Calls Try.prog 40 #[.int .i64 p] w (NewRow 3 1 (mflF p).length (cI (mflF p)) w) := by
  cases h1 : inB p 1 10000
  · go_enter Try.func40, Try.ntmps40
    go_wp2_with (go_at_call 50; refine (within_any _ _ _ _).mono ?_; rintro e w' ⟨rfl, rfl⟩)
    go_ret
    exact ⟨none, 0, by simp [mflF, h1], by simpa [mflF, h1, cI] using World.ownsRow_nil _ _ _ _, Below.refl _ _⟩
  · have hF : mflF p = mflN p 100 := by simp [mflF, h1]
    rw [hF]
    clear hF
    go_enter Try.func40, Try.ntmps40
    go_wp2_with (go_at_call 50; refine (within_any _ _ _ _).mono ?_; rintro e w' ⟨rfl, rfl⟩)
    go_loopw [3, 4] (fun v i wr => ∃ n : Nat, 1 ≤ n ∧ n ≤ 100 ∧ i = .int .i64 n ∧ wr.ownsRow w.heap.size 3 1 v (mflN p n).length (cI (mflN p n)) ∧ Below w.heap.size w wr) (fun _ i _ => 100 - (intOf i).toNat)
    case atStart => exact ⟨1, by omega, by omega, rfl, World.ownsRow_made w #[] 0 (Nat.le_refl _) (by unfold maxLen; omega) rfl, (Below.refl _ _).alloc (Nat.le_refl _) _⟩
    case round =>
      obtain ⟨n, hn1, hn, rfl, ow, bel⟩ := hrel
      obtain ⟨wo, rfl⟩ : ∃ wo : World, wo = wr := ⟨_, rfl⟩
      obtain ⟨v, rfl⟩ : ∃ v : Value, v = u3 := ⟨_, rfl⟩
      have hll := mflN_len p n
      by_cases hlt : n ≤ 99
      · have hlb : decide ((n : Int) ≤ 99) = true := by simp; omega
        go_wp2
        go_loop [3, 5] (fun s i => MoreIn p n v s i) (fun _ i => 101 - (intOf i).toNat)
        case atStart => exact ⟨rfl, n + 1, by omega, by omega, by go_num, by rw [show n + 1 - n - 1 = 0 from by omega]; rfl⟩
        case round =>
          obtain ⟨rfl, m, hm1, hm, rfl, hf⟩ := hrel
          have HF := Lib.hid hf
          clear hf
          by_cases hmt : m ≤ 100
          · by_cases hd : discF p m < discF p n
            · have hh := Lib.hid (mflN_hit (by omega) (lessB_hit hm1 hmt hd))
              go_wp2_with (first | (go_at_call 23; refine (discI_any _ _ _).mono ?_; rintro e w' ⟨rfl, rfl⟩) | (at_builtin; refine wpList_app_int _ rfl _ _ rfl w.heap.size _ _ rfl (ow.alloc _) _ (n : Int) rfl ?_ (by omega) (by have := bel.size; simp; omega) ?_; rotate_left; intro v' w' ow' bel'))
              · go_roundw
                case rel => exact ⟨n + 1, by omega, by omega, by go_num, by rw [hh.out]; exact ow', by (repeat' (first | (with_reducible exact Below.refl _ _) | (with_reducible refine bl_alloc ?_ _) | (with_reducible refine bl_drewN ?_ _) | (with_reducible refine bl_drew ?_) | (with_reducible assumption) | (with_reducible refine bl_to ?_ (by assumption)) | (with_reducible refine Below.trans ?_ (by assumption)) | (with_reducible refine Below.trans ?_ (Below.mono (by assumption) ?_)) | (with_reducible refine bl_set ?_ ?_ _) | (simp; done) | (simp; omega) | omega))⟩
                case measure => simp [intOf]; omega
              · simp
            · have hh := Lib.hid (lessB_miss hm1 hd HF.out)
              go_wp2_with (go_at_call 23; refine (discI_any _ _ _).mono ?_; rintro e w' ⟨rfl, rfl⟩)
              go_round
              case rel => exact ⟨rfl, m + 1, by omega, by omega, by go_num, hh.out⟩
              case measure => simp [intOf]; omega
          · have hh := Lib.hid (mflN_miss (by have := HF.out; rwa [show m = 101 from by omega, show 101 - n - 1 = 100 - n from by omega] at this))
            go_wp2
            go_roundw
            case rel => exact ⟨n + 1, by omega, by omega, by go_num, by rw [hh.out]; exact ow, bel⟩
            case measure => simp [intOf]; omega
      · obtain rfl : n = 100 := by omega
        go_wp2
        go_ret
        obtain ⟨A, c, rfl⟩ := own_form ow
        exact ⟨A, c, rfl, ow, bel⟩

def MoreIs (p : Int) (n : Nat) (b i : Value) : Prop := ∃ m : Nat, n + 1 ≤ m ∧ m ≤ 101 ∧ i = .int .i64 m ∧ b = .bool (lessB p n (m - n - 1))
theorem lessB_succ {p : Int} {n m : Nat} (h1 : n + 1 ≤ m) : lessB p n (m + 1 - n - 1) = (lessB p n (m - n - 1) || decide (discF p m < discF p n)) := by
  rw [show m + 1 - n - 1 = (m - n - 1) + 1 from by omega]
  simp only [lessB, show n + 1 + (m - n - 1) = m from by omega]

set_option maxHeartbeats 800000 in
theorem moreS_any (p : Int) (w : World) : Calls Try.prog 39 #[.int .i64 p] w (NewRow 3 1 (mflF p).length (cI (mflF p)) w) := by
  cases h1 : inB p 1 10000
  · go_enter Try.func39, Try.ntmps39
    go_wp2
    refine wp_loop_rounds 1 ?_
    rw [rounds_succ]
    go_wp2_with (go_at_call 49; refine (l01In_any _ _ _ _).mono ?_; rintro e w' ⟨rfl, rfl⟩)
    go_ret
    exact ⟨some ⟨w.heap.size, 0, none⟩, 0, by simp [mflF, h1], by simpa [mflF, h1, cI] using World.ownsRow_made w #[] 0 (Nat.le_refl _) (by unfold maxLen; omega) rfl, (Below.refl _ _).alloc (Nat.le_refl _) _⟩
  · have hF : mflF p = mflN p 100 := by simp [mflF, h1]
    rw [hF]
    clear hF
    go_enter Try.func39, Try.ntmps39
    go_wp2
    go_loopw [3, 4] (fun v i wr => ∃ n : Nat, 1 ≤ n ∧ n ≤ 100 ∧ i = .int .i64 n ∧ wr.ownsRow w.heap.size 3 1 v (mflN p n).length (cI (mflN p n)) ∧ Below w.heap.size w wr) (fun _ i _ => 100 - (intOf i).toNat)
    case atStart => exact ⟨1, by omega, by omega, rfl, World.ownsRow_made w #[] 0 (Nat.le_refl _) (by unfold maxLen; omega) rfl, (Below.refl _ _).alloc (Nat.le_refl _) _⟩
    case round =>
      obtain ⟨n, hn1, hn, rfl, ow, bel⟩ := hrel
      obtain ⟨wo, rfl⟩ : ∃ wo : World, wo = wr := ⟨_, rfl⟩
      have hll := mflN_len p n
      by_cases hlt : n < 100
      · have hlb : decide ((n : Int) < 100) = true := by simp; omega
        go_wp2_with (go_at_call 49; refine (l01In_any _ _ _ _).mono ?_; rintro e w' ⟨rfl, rfl⟩)
        go_loop [5, 6] (fun s i => MoreIs p n s i) (fun _ i => 101 - (intOf i).toNat)
        case atStart => exact ⟨n + 1, by omega, by omega, by go_num, by rw [show n + 1 - n - 1 = 0 from by omega]; rfl⟩
        case round =>
          obtain ⟨m, hm1, hm, rfl, rfl⟩ := hrel
          by_cases hmt : m ≤ 100
          · have hs := Lib.hid (lessB_succ (p := p) hm1)
            cases hf : lessB p n (m - n - 1)
            all_goals
              go_wp2_with (go_at_call 22; refine (discS_any _ _ _).mono ?_; rintro e w' ⟨rfl, rfl⟩)
              go_round
              case rel => exact ⟨m + 1, by omega, by omega, by go_num, by rw [hs.out, hf]; simp⟩
              case measure => simp [intOf]; omega
          · have e : m - n - 1 = 100 - n := by omega
            rw [e]
            cases hf : lessB p n (100 - n)
            · have hh := Lib.hid (mflN_miss hf)
              go_wp2
              go_roundw
              case rel => exact ⟨n + 1, by omega, by omega, by go_num, by rw [hh.out]; exact ow, bel⟩
              case measure => simp [intOf]; omega
            · have hh := Lib.hid (mflN_hit (by omega) hf)
              go_wp2_with (at_builtin; refine wpList_app_int _ rfl _ _ rfl w.heap.size _ _ rfl (ow.alloc _) _ (n : Int) rfl ?_ (by omega) (by have := bel.size; simp; omega) ?_; rotate_left; intro v' w' ow' bel')
              · go_roundw
                case rel => exact ⟨n + 1, by omega, by omega, by go_num, by rw [hh.out]; exact ow', by (repeat' (first | (with_reducible exact Below.refl _ _) | (with_reducible refine bl_alloc ?_ _) | (with_reducible refine bl_drewN ?_ _) | (with_reducible refine bl_drew ?_) | (with_reducible assumption) | (with_reducible refine bl_to ?_ (by assumption)) | (with_reducible refine Below.trans ?_ (by assumption)) | (with_reducible refine Below.trans ?_ (Below.mono (by assumption) ?_)) | (with_reducible refine bl_set ?_ ?_ _) | (simp; done) | (simp; omega) | omega))⟩
                case measure => simp [intOf]; omega
      · obtain rfl : n = 100 := by omega
        go_wp2
        go_ret
        obtain ⟨A, c, rfl⟩ := own_form ow
        exact ⟨A, c, rfl, ow, bel⟩

theorem more_law (p : Int) (w : World) : Calls Try.prog 12 #[.int .i64 p] w fun e w' => e = .returned (.bool true) ∧ Below w.heap.size w w' := by
  have hl : (mflF p).length ≤ 1048576 := by
    unfold mflF
    split
    · have := mflN_len p 100; omega
    · simp
  have hn := Lib.hid (Int.natCast_nonneg (mflF p).length)
  go_enter Try.func12, Try.ntmps12
  go_wp2_with fail
  refine (moreS_any p _).mono ?_
  rintro e w1 ⟨A1, c1, rfl, ow1, b1⟩
  go_wp2_with fail
  refine (moreI_any p _).mono ?_
  rintro e w2 ⟨A2, c2, rfl, ow2, b2⟩
  go_wp2_with fail
  refine (eqI_any _ _ (mflF p) _ (Rd.of_own ow2) (Rd.of_own (own_bl ow1 b2)) hl).mono ?_
  rintro e w3 ⟨rfl, b3⟩
  go_wp2_with fail
  refine (markI_any w1.heap.size _ (mflF p) 1 _ (own_bl ow2 b3) hl (by omega) (by omega)).mono ?_
  rintro e w4 ⟨rfl, ow4, g4⟩
  have ow1' := (own_bl (own_bl ow1 b2) b3).kept g4 (own_ne ow1 ow2)
  have hb4 : Below w.heap.size w w4 := bl_grown (W := w3) (by (repeat' (first | (with_reducible exact Below.refl _ _) | (with_reducible refine bl_alloc ?_ _) | (with_reducible refine bl_drewN ?_ _) | (with_reducible refine bl_drew ?_) | (with_reducible assumption) | (with_reducible refine bl_to ?_ (by assumption)) | (with_reducible refine Below.trans ?_ (by assumption)) | (with_reducible refine Below.trans ?_ (Below.mono (by assumption) ?_)) | (with_reducible refine bl_set ?_ ?_ _) | (simp; done) | (simp; omega) | omega))) g4 (fun k hk => Nat.le_trans b1.size (ow2.lt k hk).1)
  clear g4
  go_wp2_with fail
  refine (heldI_any _ (mflF p).length 1 _ (Rd.of_own ow4) hl (by omega) (by omega)).mono ?_
  rintro e w5 ⟨rfl, rfl⟩
  go_wp2_with fail
  refine (moreI_any p _).mono ?_
  rintro e w5 ⟨A5, c5, rfl, ow5, b5⟩
  go_wp2_with fail
  refine (eqI_any _ _ (mflF p) _ (Rd.of_own ow5) (Rd.of_own (own_bl ow1' b5)) hl).mono ?_
  rintro e w6 ⟨rfl, b6⟩
  go_wp2_with fail
  refine (heldI_any _ (mflF p).length 1 _ (Rd.of_own (own_bl (own_bl ow4 b5) b6)) hl (by omega) (by omega)).mono ?_
  rintro e w7 ⟨rfl, rfl⟩
  go_wp2
  go_ret
  exact ⟨rfl, by (repeat' (first | (with_reducible exact Below.refl _ _) | (with_reducible refine bl_alloc ?_ _) | (with_reducible refine bl_drewN ?_ _) | (with_reducible refine bl_drew ?_) | (with_reducible assumption) | (with_reducible refine bl_to ?_ (by assumption)) | (with_reducible refine Below.trans ?_ (by assumption)) | (with_reducible refine Below.trans ?_ (Below.mono (by assumption) ?_)) | (with_reducible refine bl_set ?_ ?_ _) | (simp; done) | (simp; omega) | omega))⟩
end Go.Proofs.Ytggalfjaenoaeaa
