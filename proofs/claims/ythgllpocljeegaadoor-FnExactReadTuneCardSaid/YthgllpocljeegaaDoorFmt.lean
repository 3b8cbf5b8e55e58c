/- FormatInt of the reference, at a number that is not negative; no condition. -/
import Derived.Test.YthgllpocljeegaaDoorMarkText
import Derived.Lib.ItoaMem
namespace Go.Proofs.YthgllpocljeegaaDoor
open Go.RowKit

/-- the numeral of n -/
def fmtT (n : Nat) : ByteArray := ⟨(Lib.decDigits n).toArray⟩
theorem fmtT_small {n : Nat} (h : n < 10) : fmtT n = ⟨#[UInt8.ofNat (48 + n)]⟩ := by rw [fmtT, Lib.decDigits, dif_pos h]
theorem fmtT_big {n : Nat} (h : ¬ n < 10) : fmtT n = fmtT (n / 10) ++ ⟨#[UInt8.ofNat (48 + n % 10)]⟩ := by
  apply ba_ext
  rw [ByteArray.data_append, fmtT, Lib.decDigits, dif_neg h]
  simp [fmtT]
theorem fmtT_digT (n : Nat) (h : n ≠ 0) : fmtT n = digT n := by
  induction n using Nat.strongRecOn with
  | _ n ih =>
    by_cases h1 : n < 10
    · rw [fmtT_small h1, digT_pos h, show n / 10 = 0 by omega, digT_zero, ba_nil_append, show n % 10 = n by omega]
    · rw [fmtT_big h1, digT_pos h, ih (n / 10) (by omega) (by omega)]
theorem fmtT_zero : fmtT 0 = ⟨#[48]⟩ := by rw [fmtT_small (by decide)]; rfl
theorem figS_any (d : Nat) (hd : d < 10) (w : World) : Calls Tryd.prog 34 #[.int .i64 d] w fun e w' => e = .returned (.int .u8 (48 + (d : Int))) ∧ w = w' := by
  have h1 : (d : Int) < 10 := by omega
  have h2 : IntKind.u8.wrap (48 + (d : Int)) = 48 + (d : Int) := by simp [IntKind.wrap, IntKind.bits, IntKind.signed]; omega
  go_enter Tryd.func34, Tryd.ntmps34
  go_wp2
  go_ret
  exact ⟨rfl, rfl⟩
set_option maxHeartbeats 1600000 in
set_option maxRecDepth 100000 in
theorem fmtS_any (k : Nat) (w : World) (h1 : k ≤ 4000000000) : Calls Tryd.prog 23 #[.int .i64 k] w fun e w' => e = .returned (.string (fmtT k)) ∧ Below w.heap.size w w' := by
  by_cases h0 : k = 0
  · subst h0
    rw [fmtT_zero]
    go_enter Tryd.func23, Tryd.ntmps23
    go_wp2
    go_ret
    exact ⟨rfl, Below.refl _ _⟩
  rw [fmtT_digT k h0]
  have hs := digT_size 10 k (by omega)
  have k0 : ¬ (k : Int) = 0 := by omega
  have k1 : ¬ (k : Int) < 0 := by omega
  go_enter Tryd.func23, Tryd.ntmps23
  go_wp2
  go_loopw [0, 4] (fun q d wr => ∃ (n : Nat) (D : ByteArray), q = .int .i64 n ∧ d = .string D ∧ digT n ++ D = digT k ∧ n ≤ k ∧ Below w.heap.size w wr) (fun q _ _ => (intOf q).toNat)
  case atStart => exact ⟨k, ⟨#[]⟩, rfl, rfl, ba_append_nil _, Nat.le_refl _, Below.refl _ _⟩
  case round =>
    obtain ⟨n, D, rfl, rfl, he, hn, bel⟩ := hrel
    have hD : D.size ≤ 10 := by have := congrArg ByteArray.size he; rw [ByteArray.size_append] at this; omega
    by_cases hz : n = 0
    · subst hz
      have HE : Hid (D = digT k) := by show D = digT k; rw [← he, digT_zero, ba_nil_append]
      clear he
      go_wp2
      go_ret
      exact ⟨by show Ending.returned (.string D) = _; rw [HE.out], bel⟩
    · have hp : ¬ (n : Int) = 0 := by omega
      have hp2 : ¬ (n : Int) % 10 < 0 := by omega
      have HE : Hid (digT (n / 10) ++ ((⟨#[UInt8.ofNat (48 + n % 10)]⟩ : ByteArray) ++ D) = digT k) := by show _ = _; rw [← he, digT_pos hz, ByteArray.append_assoc]
      have hcv := conv_one wr (48 + ((n % 10 : Nat) : Int)) (48 + n % 10) (by omega) (by omega)
      have hz1 : (⟨#[UInt8.ofNat (48 + n % 10)]⟩ : ByteArray).size = 1 := rfl
      have hfg := figS_any (n % 10) (by omega) wr
      obtain ⟨g, hg⟩ : ∃ g : Int, ((n % 10 : Nat) : Int) = g := ⟨_, rfl⟩
      have hg2 : (n : Int) % 10 = g := by omega
      have hg3 : ¬ g < 0 := by omega
      rw [hg] at hcv hfg
      generalize (⟨#[UInt8.ofNat (48 + n % 10)]⟩ : ByteArray) = C at *
      clear he hg
      go_wp2_with (go_at_call 34; refine hfg.mono ?_; rintro e wx ⟨rfl, rfl⟩)
      go_roundw
      case rel => exact ⟨n / 10, C ++ D, by go_num, rfl, HE.out, by omega, by (repeat' (first | (with_reducible exact Below.refl _ _) | (with_reducible refine bl_alloc ?_ _) | (with_reducible refine bl_drewN ?_ _) | (with_reducible refine bl_drew ?_) | (with_reducible assumption) | (with_reducible refine bl_to ?_ (by assumption)) | (with_reducible refine Below.trans ?_ (by assumption)) | (with_reducible refine Below.trans ?_ (Below.mono (by assumption) ?_)) | (with_reducible refine bl_set ?_ ?_ _) | (simp; done) | (simp; omega) | omega))⟩
      case measure => simp [intOf]; omega
end Go.Proofs.YthgllpocljeegaaDoor
