/- The text that the laws write as a mark; no condition. -/
import Derived.Test.YthgllpocljeegaaGreatDoorBase
import Derived.Laws.IdiomStrings
import Derived.Handy
namespace Go.Proofs.YthgllpocljeegaaGreatDoor
open Go.RowKit

theorem ba_ext {a b : ByteArray} (h : a.data.toList = b.data.toList) : a = b := by
  cases a; cases b
  simp only [ByteArray.mk.injEq]
  exact Array.toList_inj.1 h
theorem ba_nil_append (D : ByteArray) : (⟨#[]⟩ : ByteArray) ++ D = D := ba_ext (by rw [ByteArray.data_append]; simp)
theorem ba_append_nil (D : ByteArray) : D ++ (⟨#[]⟩ : ByteArray) = D := ba_ext (by rw [ByteArray.data_append]; simp)
/-- string([]byte{c}) -/
theorem conv_one (w : World) (c : Int) (k : Nat) (hk : k < 256) (hc : c = (k : Int)) : (convert 22 9 (.slice (some ⟨w.heap.size, 0, none⟩) 1 1)).run Tryz.prog (w.alloc (.cells #[.int .u8 c] 5)) = .ok (.string ⟨#[UInt8.ofNat k]⟩) (w.alloc (.cells #[.int .u8 c] 5)) := by
  have := run_convert_bytes_back (P := Tryz.prog) (w.alloc (.cells #[.int .u8 c] 5)) 22 9 5 ⟨w.heap.size, 0, none⟩ 1 [UInt8.ofNat k] Tryz.underlying22 Tryz.underlying5 Tryz.underlying9 (fun j hj => by
    obtain rfl : j = 0 := by simpa using hj
    subst hc
    simp [go_sem, Addr.add, UInt8.toNat_ofNat', Nat.mod_eq_of_lt hk])
  exact this
/-- the figures of n -/
def digT (n : Nat) : ByteArray := if h : n = 0 then ⟨#[]⟩ else digT (n / 10) ++ ⟨#[UInt8.ofNat (48 + n % 10)]⟩
termination_by n
decreasing_by omega
theorem digT_zero : digT 0 = ⟨#[]⟩ := by rw [digT]; rfl
theorem digT_pos {n : Nat} (h : n ≠ 0) : digT n = digT (n / 10) ++ ⟨#[UInt8.ofNat (48 + n % 10)]⟩ := by rw [digT, dif_neg h]
theorem digT_size (k : Nat) : ∀ n, n < 10 ^ k → (digT n).size ≤ k := by
  induction k with
  | zero =>
    intro n h
    obtain rfl : n = 0 := by simpa using h
    rw [digT_zero]; exact Nat.le_refl _
  | succ k ih =>
    intro n h
    by_cases h0 : n = 0
    · subst h0; rw [digT_zero]; exact Nat.zero_le _
    · rw [digT_pos h0, ByteArray.size_append]
      have := ih (n / 10) (by rw [Nat.pow_succ] at h; omega)
      have e : (⟨#[UInt8.ofNat (48 + n % 10)]⟩ : ByteArray).size = 1 := rfl
      omega
/-- what the laws write at k -/
def mkT (k : Nat) : ByteArray := ⟨#[109]⟩ ++ digT k

end Go.Proofs.YthgllpocljeegaaGreatDoor
