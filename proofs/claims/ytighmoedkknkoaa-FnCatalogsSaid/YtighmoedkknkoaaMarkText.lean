/- The text that the laws write as a mark; no condition. -/
import Derived.Test.YtighmoedkknkoaaBase
import Derived.Laws.IdiomStrings
import Derived.Handy
namespace Go.Proofs.Ytighmoedkknkoaa
open Go.RowKit

theorem ba_ext {a b : ByteArray} (h : a.data.toList = b.data.toList) : a = b := by
  cases a; cases b
  simp only [ByteArray.mk.injEq]
  exact Array.toList_inj.1 h
theorem ba_nil_append (D : ByteArray) : (⟨#[]⟩ : ByteArray) ++ D = D := ba_ext (by rw [ByteArray.data_append]; simp)
theorem ba_append_nil (D : ByteArray) : D ++ (⟨#[]⟩ : ByteArray) = D := ba_ext (by rw [ByteArray.data_append]; simp)
/-- string([]byte{c}) -/
theorem conv_one (w : World) (c : Int) (k : Nat) (hk : k < 256) (hc : c = (k : Int)) : (convert 50 9 (.slice (some ⟨w.heap.size, 0, none⟩) 1 1)).run Try.prog (w.alloc (.cells #[.int .u8 c] 5)) = .ok (.string ⟨#[UInt8.ofNat k]⟩) (w.alloc (.cells #[.int .u8 c] 5)) := by
  have := run_convert_bytes_back (P := Try.prog) (w.alloc (.cells #[.int .u8 c] 5)) 50 9 5 ⟨w.heap.size, 0, none⟩ 1 [UInt8.ofNat k] Try.underlying50 Try.underlying5 Try.underlying9 (fun j hj => by
    obtain rfl : j = 0 := by simpa using hj
    subst hc
    simp [go_sem, Addr.add, UInt8.toNat_ofNat', Nat.mod_eq_of_lt hk])
  exact this
/-- the figures of n -/
def digT (n : Nat) : ByteArray := if h : n = 0 then ⟨#[]⟩ else digT (n / 10) ++ ⟨#[UInt8.ofNat (48 + n % 10)]⟩
termination_by n
decreasing_by omega
theorem digT_zero : digT 0 = ⟨#[]⟩ := by rw [digT]; rfl
theorem digT_pos {n : Nat} (h : n ≠ 0) : digT n = digT (n / 10) ++ ⟨#[UInt8.ofNat (48 + n % 10)]⟩ := by rw [digT, dif_neg h]
theorem digT_size (k : Nat) : ∀ n, n < 10 ^ k → (digT n).size ≤ k := by
  induction k with
  | zero =>
    intro n h
    obtain rfl : n = 0 := by simpa using h
    rw [digT_zero]; exact Nat.le_refl _
  | succ k ih =>
    intro n h
    by_cases h0 : n = 0
    · subst h0; rw [digT_zero]; exact Nat.zero_le _
    · rw [digT_pos h0, ByteArray.size_append]
      have := ih (n / 10) (by rw [Nat.pow_succ] at h; omega)
      have e : (⟨#[UInt8.ofNat (48 + n % 10)]⟩ : ByteArray).size = 1 := rfl
      omega
/-- what the laws write at k -/
def mkT (k : Nat) : ByteArray := ⟨#[109]⟩ ++ digT k
set_option maxHeartbeats 1600000 in
set_option maxRecDepth 100000 in
theorem markText_any (k : Nat) (w : World) (h0 : 0 < k) (h1 : k ≤ 4000000000) : Calls Try.prog 42 #[.int .i64 k] w fun e w' => e = .returned (.string (mkT k)) ∧ Below w.heap.size w w' := by
  have hs := digT_size 10 k (by omega)
  have k1 : ¬ (k : Int) ≤ 0 := by omega
  go_enter Try.func42, Try.ntmps42
  go_wp2
  go_loopw [0, 3] (fun q d wr => ∃ (n : Nat) (D : ByteArray), q = .int .i64 n ∧ d = .string D ∧ digT n ++ D = digT k ∧ n ≤ k ∧ Below w.heap.size w wr) (fun q _ _ => (intOf q).toNat)
  case atStart => exact ⟨k, ⟨#[]⟩, rfl, rfl, ba_append_nil _, Nat.le_refl _, Below.refl _ _⟩
  case round =>
    obtain ⟨n, D, rfl, rfl, he, hn, bel⟩ := hrel
    have hD : D.size ≤ 10 := by have := congrArg ByteArray.size he; rw [ByteArray.size_append] at this; omega
    by_cases hz : n = 0
    · subst hz
      have HE : Hid (D = digT k) := by show D = digT k; rw [← he, digT_zero, ba_nil_append]
      clear he
      go_wp2
      go_ret
      exact ⟨by show Ending.returned (.string (⟨#[109]⟩ ++ D)) = _; rw [mkT, HE.out], bel⟩
    · have hp : (0 : Int) < (n : Int) := by omega
      have HE : Hid (digT (n / 10) ++ ((⟨#[UInt8.ofNat (48 + n % 10)]⟩ : ByteArray) ++ D) = digT k) := by show _ = _; rw [← he, digT_pos hz, ByteArray.append_assoc]
      have hcv := conv_one wr (48 + (n : Int) % 10) (48 + n % 10) (by omega) (by omega)
      have hz1 : (⟨#[UInt8.ofNat (48 + n % 10)]⟩ : ByteArray).size = 1 := rfl
      generalize (⟨#[UInt8.ofNat (48 + n % 10)]⟩ : ByteArray) = C at *
      clear he
      go_wp2
      go_roundw
      case rel => exact ⟨n / 10, C ++ D, by go_num, rfl, HE.out, by omega, by (repeat' (first | (with_reducible exact Below.refl _ _) | (with_reducible refine bl_alloc ?_ _) | (with_reducible refine bl_drewN ?_ _) | (with_reducible refine bl_drew ?_) | (with_reducible assumption) | (with_reducible refine bl_to ?_ (by assumption)) | (with_reducible refine Below.trans ?_ (by assumption)) | (with_reducible refine Below.trans ?_ (Below.mono (by assumption) ?_)) | (with_reducible refine bl_set ?_ ?_ _) | (simp; done) | (simp; omega) | omega))⟩
      case measure => simp [intOf]; omega

end Go.Proofs.Ytighmoedkknkoaa
