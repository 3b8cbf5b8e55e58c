/- The drawn wear of the law; lengths up to 2^20. -/
import Derived.Test.YtoijjjaodfincaaDrawWear
namespace Go.Proofs.Ytoijjjaodfincaa
open Go.RowKit

def DrawnWear (w : World) (en : Ending) (w' : World) : Prop :=
    ∃ (n : Int) (l : List Int) (A : Option Addr) (c : Nat), en = .returned (.agg #[.slice A l.length c, .int .i64 n]) ∧ (1 ≤ l.length ∧ l.length ≤ 7) ∧ (1 ≤ n ∧ n ≤ 6) ∧ drH l ∧ w'.ownsRow w.heap.size 3 1 (.slice A l.length c) l.length (cI l) ∧ Below w.heap.size w w'
set_option maxHeartbeats 3200000 in
set_option maxRecDepth 100000 in
theorem drawWear_any (v : Value) (L : List Int) (w : World) (h0 : RdB w v L) (hl : L.length ≤ 1048576) : Calls Try.prog 47 #[v] w (DrawnWear w) := by
  go_enter Try.func47, Try.ntmps47
  have h0a : RdB (w.alloc (.cells #[.slice none 0 0, .int .i64 0] 41)) v L := h0.bl (bl_alloc (Below.refl _ _) _)
  go_wp2_with fail
  refine (new_any _ _ _ h0a hl).mono ?_
  rintro e w1 ⟨rfl, hc1⟩
  simp only [World.size_alloc] at hc1
  go_wp2_with fail
  refine (below_any _ _ _ _ _ _ h0a hl hc1).mono ?_
  rintro e w2 ⟨m, ⟨m0, m1⟩, rfl, hc2, g2⟩
  have m1 := m1 (by omega)
  obtain ⟨M, rfl⟩ := Int.eq_ofNat_of_zero_le m0
  have e1 : 1 + (M : Int) = ((M + 1 : Nat) : Int) := by omega
  have cw := l25Wear_any (M + 1) _ _ _ _ _ h0a hl (by omega) hc2
  rw [← e1] at cw
  clear e1
  go_wp2_with fail
  refine cw.mono ?_
  rintro e w3 ⟨n, l, A, c, rfl, hN, hn, hd, ow, hc3, g3⟩
  have HN := Lib.hid hN
  clear hN
  have b3 := hc3.bel
  have q0 : w3.cell? ⟨w.heap.size, 0, none⟩ = some (.slice none 0 0) := (b3.cell (p := ⟨w.heap.size, 0, none⟩) (by simp)).trans (by simp [go_sem])
  have q1 : w3.cell? ⟨w.heap.size, 1, none⟩ = some (.int .i64 0) := (b3.cell (p := ⟨w.heap.size, 1, none⟩) (by simp)).trans (by simp [go_sem])
  have p0 : w3.frozen? ⟨w.heap.size, 0, none⟩ = false := (b3.frozen (p := ⟨w.heap.size, 0, none⟩) (by simp)).trans (by simp [go_sem])
  have p1 : w3.frozen? ⟨w.heap.size, 1, none⟩ = false := (b3.frozen (p := ⟨w.heap.size, 1, none⟩) (by simp)).trans (by simp [go_sem])
  have sz := hc2.bel.size
  simp only [World.size_alloc] at sz
  go_wp2
  refine bodyPost_ret (v := .agg #[.slice A l.length c, .int .i64 n]) (by simp [results, Try.results47, go_sem, q0, q1]) rfl ?_
  have bs : Below w.heap.size w3 ((w3.setCell ⟨w.heap.size, 0, none⟩ (.slice A l.length c)).setCell ⟨w.heap.size, 1, none⟩ (.int .i64 n)) := ((Below.refl w.heap.size _).setCell (p := ⟨w.heap.size, 0, none⟩) (Nat.le_refl _) _).setCell (p := ⟨w.heap.size, 1, none⟩) (Nat.le_refl _) _
  have os := ownsRow_setCell_below (ownsRow_setCell_below ow (a := ⟨w.heap.size, 0, none⟩) (by simp; omega) (.slice A l.length c)) (a := ⟨w.heap.size, 1, none⟩) (by simp; omega) (.int .i64 n)
  exact ⟨n, l, A, c, rfl, by have := HN.out; omega, hn, hd, own_lo os (by omega), ((bl_alloc (Below.refl _ _) _).trans (b3.mono (by simp))).trans bs⟩
end Go.Proofs.Ytoijjjaodfincaa
