/- FormatInt of the reference, at a number that is not negative; no condition. -/
import Derived.Test.YthgllpocljeegaaGreatDoorMarkText
import Derived.Lib.ItoaMem
namespace Go.Proofs.YthgllpocljeegaaGreatDoor
open Go.RowKit

/-- the numeral of n -/
def fmtT (n : Nat) : ByteArray := ⟨(Lib.decDigits n).toArray⟩
theorem fmtT_small {n : Nat} (h : n < 10) : fmtT n = ⟨#[UInt8.ofNat (48 + n)]⟩ := by rw [fmtT, Lib.decDigits, dif_pos h]
theorem fmtT_big {n : Nat} (h : ¬ n < 10) : fmtT n = fmtT (n / 10) ++ ⟨#[UInt8.ofNat (48 + n % 10)]⟩ := by
  apply ba_ext
  rw [ByteArray.data_append, fmtT, Lib.decDigits, dif_neg h]
  simp [fmtT]
theorem fmtT_digT (n : Nat) (h : n ≠ 0) : fmtT n = digT n := by
  induction n using Nat.strongRecOn with
  | _ n ih =>
    by_cases h1 : n < 10
    · rw [fmtT_small h1, digT_pos h, show n / 10 = 0 by omega, digT_zero, ba_nil_append, show n % 10 = n by omega]
    · rw [fmtT_big h1, digT_pos h, ih (n / 10) (by omega) (by omega)]
theorem fmtT_zero : fmtT 0 = ⟨#[48]⟩ := by rw [fmtT_small (by decide)]; rfl
end Go.Proofs.YthgllpocljeegaaGreatDoor
