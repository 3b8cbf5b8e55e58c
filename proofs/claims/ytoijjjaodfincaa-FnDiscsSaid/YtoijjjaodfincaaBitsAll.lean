/- At every set of at most 16 bits the two counts agree; no condition. -/
import Derived.Test.YtoijjjaodfincaaBits
namespace Go.Proofs.Ytoijjjaodfincaa
open Go.RowKit
theorem chk_0 : chk 12 0 = true := by decide +kernel
theorem chk_1 : chk 12 4096 = true := by decide +kernel
theorem chk_2 : chk 12 8192 = true := by decide +kernel
theorem chk_3 : chk 12 12288 = true := by decide +kernel
theorem chk_4 : chk 12 16384 = true := by decide +kernel
theorem chk_5 : chk 12 20480 = true := by decide +kernel
theorem chk_6 : chk 12 24576 = true := by decide +kernel
theorem chk_7 : chk 12 28672 = true := by decide +kernel
theorem chk_8 : chk 12 32768 = true := by decide +kernel
theorem chk_9 : chk 12 36864 = true := by decide +kernel
theorem chk_10 : chk 12 40960 = true := by decide +kernel
theorem chk_11 : chk 12 45056 = true := by decide +kernel
theorem chk_12 : chk 12 49152 = true := by decide +kernel
theorem chk_13 : chk 12 53248 = true := by decide +kernel
theorem chk_14 : chk 12 57344 = true := by decide +kernel
theorem chk_15 : chk 12 61440 = true := by decide +kernel
theorem chk_at (n : Nat) (h : n < 65536) : ocN n = poN n 16 := by
  have hq : n / 4096 < 16 := by omega
  have hr : n % 4096 < 4096 := by omega
  have e : n = 4096 * (n / 4096) + n % 4096 := by omega
  generalize n / 4096 = q at *
  generalize n % 4096 = t at *
  subst e
  have hc : q = 0 ∨ q = 1 ∨ q = 2 ∨ q = 3 ∨ q = 4 ∨ q = 5 ∨ q = 6 ∨ q = 7 ∨ q = 8 ∨ q = 9 ∨ q = 10 ∨ q = 11 ∨ q = 12 ∨ q = 13 ∨ q = 14 ∨ q = 15 := by omega
  rcases hc with rfl | rfl | rfl | rfl | rfl | rfl | rfl | rfl | rfl | rfl | rfl | rfl | rfl | rfl | rfl | rfl
  · exact chk_all 12 0 chk_0 t hr
  · exact chk_all 12 4096 chk_1 t hr
  · exact chk_all 12 8192 chk_2 t hr
  · exact chk_all 12 12288 chk_3 t hr
  · exact chk_all 12 16384 chk_4 t hr
  · exact chk_all 12 20480 chk_5 t hr
  · exact chk_all 12 24576 chk_6 t hr
  · exact chk_all 12 28672 chk_7 t hr
  · exact chk_all 12 32768 chk_8 t hr
  · exact chk_all 12 36864 chk_9 t hr
  · exact chk_all 12 40960 chk_10 t hr
  · exact chk_all 12 45056 chk_11 t hr
  · exact chk_all 12 49152 chk_12 t hr
  · exact chk_all 12 53248 chk_13 t hr
  · exact chk_all 12 57344 chk_14 t hr
  · exact chk_all 12 61440 chk_15 t hr
theorem oc_pop (x : Int) (h0 : 0 ≤ x) (h1 : x ≤ 65535) : ocF x = popN x 16 := by
  obtain ⟨n, rfl⟩ := Int.eq_ofNat_of_zero_le h0
  have hn : n < 65536 := by omega
  rw [ocF_nat n hn, popN_nat n 16 hn]
  rw [chk_at n hn]
theorem ones_any (x : Int) (w : World) (h0 : 0 ≤ x) (h1 : x ≤ 65535) : Calls Try.prog 72 #[.int .u64 x] w fun e w' => e = .returned (.int .i64 (popN x 16)) ∧ w = w' := by
  rw [← oc_pop x h0 h1]
  exact ones x w h0 h1
end Go.Proofs.Ytoijjjaodfincaa
