/- How many bits of a set of at most 16 stand: bits.OnesCount and the reference's own count; no condition. -/
import Derived.Test.YtoijjjaodfincaaData
namespace Go.Proofs.Ytoijjjaodfincaa
open Go.RowKit

def oc1 (x : Int) : Int := IntKind.u64.wrap (bits .and .u64 (x / 2) 6148914691236517205 + bits .and .u64 x 6148914691236517205)
def oc2 (x : Int) : Int := IntKind.u64.wrap (bits .and .u64 (x / 4) 3689348814741910323 + bits .and .u64 x 3689348814741910323)
def oc3 (x : Int) : Int := bits .and .u64 (IntKind.u64.wrap (x / 16 + x)) 1085102592571150095
def oc4 (x : Int) : Int := IntKind.u64.wrap (x + x / 256)
def oc5 (x : Int) : Int := IntKind.u64.wrap (x + x / 65536)
def oc6 (x : Int) : Int := IntKind.u64.wrap (x + x / 4294967296)
def ocF (x : Int) : Int := bits .and .i64 (wrap64 (oc6 (oc5 (oc4 (oc3 (oc2 (oc1 x))))))) 127

theorem ones64 (x : Int) (w : World) (h0 : 0 ≤ x) (h1 : x ≤ 65535) : Calls Try.prog 95 #[.int .u64 x] w fun e w' => e = .returned (.int .i64 (ocF x)) ∧ w = w' := by
  go_enter Try.func95, Try.ntmps95
  go_wp2
  go_ret
  exact ⟨ret_int rfl, rfl⟩
theorem ones (x : Int) (w : World) (h0 : 0 ≤ x) (h1 : x ≤ 65535) : Calls Try.prog 72 #[.int .u64 x] w fun e w' => e = .returned (.int .i64 (ocF x)) ∧ w = w' := by
  go_enter Try.func72, Try.ntmps72
  go_wp2_with (go_at_call 95; refine (ones64 _ _ h0 h1).mono ?_; rintro e w' ⟨rfl, rfl⟩)
  go_ret
  exact ⟨rfl, rfl⟩
def bitI (x : Int) (k : Nat) : Int := bits .and .i64 (x / 2 ^ k) 1
/-- the bits below k that stand -/
def popN (x : Int) : Nat → Int
  | 0 => 0
  | k + 1 => popN x k + bitI x k
theorem bitI_bd (x : Int) (k : Nat) : 0 ≤ bitI x k ∧ bitI x k ≤ 1 := by
  have h : bitI x k = IntKind.i64.wrap ((BitVec.ofInt 64 (x / 2 ^ k) &&& BitVec.ofInt 64 1).toNat : Int) := rfl
  have hn : (BitVec.ofInt 64 (x / 2 ^ k) &&& BitVec.ofInt 64 1).toNat ≤ 1 := by
    rw [BitVec.toNat_and]
    exact Nat.and_le_right
  rw [h, IntWalk.i64_in _ (by omega)]
  omega
theorem popN_bd (x : Int) (k : Nat) : 0 ≤ popN x k ∧ popN x k ≤ k := by
  induction k with
  | zero => simp [popN]
  | succ k ih =>
    have := bitI_bd x k
    simp only [popN]
    omega
theorem l26_any (x : Int) (w : World) : Calls Try.prog 71 #[.int .i64 x] w fun e w' => e = .returned (.int .i64 (popN x 16)) ∧ w = w' := by
  go_enter Try.func71, Try.ntmps71
  go_wp2
  go_loop [3, 4] (fun n i => ∃ k : Nat, k ≤ 16 ∧ i = .int .i64 k ∧ n = .int .i64 (popN x k)) (fun _ i => 16 - (intOf i).toNat)
  case atStart => exact ⟨0, Nat.zero_le _, rfl, rfl⟩
  case round =>
    obtain ⟨k, hk, rfl, rfl⟩ := hrel
    obtain ⟨p1, p2⟩ := popN_bd x k
    obtain ⟨b1, b2⟩ := bitI_bd x k
    have hs := Lib.hid (show popN x (k + 1) = popN x k + bitI x k from rfl)
    unfold bitI at b1 b2
    by_cases hlt : k < 16
    · go_wp2
      go_round
      case rel => exact ⟨k + 1, by omega, by go_num, by rw [hs.out]; rfl⟩
      case measure => simp [intOf]; omega
    · obtain rfl : k = 16 := by omega
      go_wp2
      go_ret
      exact ⟨rfl, rfl⟩
/-! the same on Nat -/
def ocN (n : Nat) : Nat :=
  let a := (n / 2 &&& 6148914691236517205) + (n &&& 6148914691236517205)
  let b := (a / 4 &&& 3689348814741910323) + (a &&& 3689348814741910323)
  let c := (b / 16 + b) &&& 1085102592571150095
  let d := c + c / 256
  (d + d / 65536) &&& 127
def poN (n : Nat) : Nat → Nat
  | 0 => 0
  | k + 1 => poN n k + n / 2 ^ k % 2
theorem u64_and_nat (a b : Nat) (ha : a < 18446744073709551616) (hb : b < 18446744073709551616) : bits .and .u64 (a : Int) (b : Int) = ((a &&& b : Nat) : Int) := by
  have hx : a &&& b ≤ a := Nat.and_le_left
  show IntKind.u64.wrap ((BitVec.ofInt 64 (a : Int) &&& BitVec.ofInt 64 (b : Int)).toNat : Int) = _
  rw [BitVec.toNat_and, BitVec.ofInt_natCast, BitVec.ofInt_natCast, BitVec.toNat_ofNat, BitVec.toNat_ofNat, Nat.mod_eq_of_lt (by omega), Nat.mod_eq_of_lt (by omega), IntKind.wrap_u64]
  omega
theorem i64_and_nat (a b : Nat) (ha : a < 9223372036854775808) (hb : b < 9223372036854775808) : bits .and .i64 (a : Int) (b : Int) = ((a &&& b : Nat) : Int) := by
  have hx : a &&& b ≤ a := Nat.and_le_left
  show IntKind.i64.wrap ((BitVec.ofInt 64 (a : Int) &&& BitVec.ofInt 64 (b : Int)).toNat : Int) = _
  rw [BitVec.toNat_and, BitVec.ofInt_natCast, BitVec.ofInt_natCast, BitVec.toNat_ofNat, BitVec.toNat_ofNat, Nat.mod_eq_of_lt (by omega), Nat.mod_eq_of_lt (by omega), IntKind.wrap_i64]
  omega
theorem bitI_nat (n k : Nat) (h : n < 65536) : bitI (n : Int) k = ((n / 2 ^ k % 2 : Nat) : Int) := by
  have h1 : n / 2 ^ k ≤ n := Nat.div_le_self _ _
  have e : ((n : Int) / 2 ^ k) = ((n / 2 ^ k : Nat) : Int) := by rw [Int.natCast_ediv]; rfl
  unfold bitI
  rw [e, show (1 : Int) = ((1 : Nat) : Int) from rfl, i64_and_nat _ _ (by omega) (by omega), Nat.and_one_is_mod]
theorem popN_nat (n k : Nat) (h : n < 65536) : popN (n : Int) k = ((poN n k : Nat) : Int) := by
  induction k with
  | zero => rfl
  | succ k ih => simp only [popN, poN, ih, bitI_nat n k h, Int.natCast_add]
theorem ocF_nat (n : Nat) (h : n < 65536) : ocF (n : Int) = ((ocN n : Nat) : Int) := by
  have a1 : n / 2 &&& 6148914691236517205 ≤ n / 2 := Nat.and_le_left
  have a2 : n &&& 6148914691236517205 ≤ n := Nat.and_le_left
  have e1 : oc1 (n : Int) = (((n / 2 &&& 6148914691236517205) + (n &&& 6148914691236517205) : Nat) : Int) := by
    unfold oc1
    rw [show (n : Int) / 2 = ((n / 2 : Nat) : Int) from by omega, show (6148914691236517205 : Int) = ((6148914691236517205 : Nat) : Int) from rfl, u64_and_nat _ _ (by omega) (by omega), u64_and_nat _ _ (by omega) (by omega), IntKind.wrap_u64]
    omega
  generalize ha : (n / 2 &&& 6148914691236517205) + (n &&& 6148914691236517205) = a at e1
  have na : a ≤ 131072 := by omega
  have b1 : a / 4 &&& 3689348814741910323 ≤ a / 4 := Nat.and_le_left
  have b2 : a &&& 3689348814741910323 ≤ a := Nat.and_le_left
  have e2 : oc2 (a : Int) = (((a / 4 &&& 3689348814741910323) + (a &&& 3689348814741910323) : Nat) : Int) := by
    unfold oc2
    rw [show (a : Int) / 4 = ((a / 4 : Nat) : Int) from by omega, show (3689348814741910323 : Int) = ((3689348814741910323 : Nat) : Int) from rfl, u64_and_nat _ _ (by omega) (by omega), u64_and_nat _ _ (by omega) (by omega), IntKind.wrap_u64]
    omega
  generalize hb : (a / 4 &&& 3689348814741910323) + (a &&& 3689348814741910323) = b at e2
  have nb : b ≤ 262144 := by omega
  have c1 : (b / 16 + b) &&& 1085102592571150095 ≤ b / 16 + b := Nat.and_le_left
  have e3 : oc3 (b : Int) = (((b / 16 + b) &&& 1085102592571150095 : Nat) : Int) := by
    unfold oc3
    rw [show IntKind.u64.wrap ((b : Int) / 16 + b) = ((b / 16 + b : Nat) : Int) from by rw [IntKind.wrap_u64]; omega, show (1085102592571150095 : Int) = ((1085102592571150095 : Nat) : Int) from rfl, u64_and_nat _ _ (by omega) (by omega)]
  generalize hc : (b / 16 + b) &&& 1085102592571150095 = c at e3
  have nc : c ≤ 524288 := by omega
  have e4 : oc4 (c : Int) = ((c + c / 256 : Nat) : Int) := by unfold oc4; rw [IntKind.wrap_u64]; omega
  generalize hd : c + c / 256 = d at e4
  have nd : d ≤ 1048576 := by omega
  have e5 : oc5 (d : Int) = ((d + d / 65536 : Nat) : Int) := by unfold oc5; rw [IntKind.wrap_u64]; omega
  have hF : ocN n = (d + d / 65536) &&& 127 := by simp only [ocN, ha, hb, hc, hd]
  generalize he : d + d / 65536 = f at e5 hF
  have nf : f ≤ 2097152 := by omega
  clear ha hb hc hd he
  have e6 : oc6 (f : Int) = (f : Int) := by unfold oc6; rw [IntKind.wrap_u64]; omega
  unfold ocF
  rw [e1, e2, e3, e4, e5, e6, IntWalk.wrap64_in _ (by omega), hF, show (127 : Int) = ((127 : Nat) : Int) from rfl, i64_and_nat _ _ (by omega) (by omega)]
def chk : Nat → Nat → Bool
  | 0, a => ocN a == poN a 16
  | d + 1, a => chk d a && chk d (a + 2 ^ d)
theorem chk_all (d a : Nat) (h : chk d a = true) (i : Nat) (hi : i < 2 ^ d) : ocN (a + i) = poN (a + i) 16 := by
  induction d generalizing a i with
  | zero =>
    obtain rfl : i = 0 := by simpa using hi
    simpa [chk] using h
  | succ d ih =>
    simp only [chk, Bool.and_eq_true] at h
    rcases Nat.lt_or_ge i (2 ^ d) with hl | hg
    · exact ih a h.1 i hl
    · have := ih (a + 2 ^ d) h.2 (i - 2 ^ d) (by rw [Nat.pow_succ] at hi; omega)
      rwa [show a + 2 ^ d + (i - 2 ^ d) = a + i from by omega] at this
end Go.Proofs.Ytoijjjaodfincaa
