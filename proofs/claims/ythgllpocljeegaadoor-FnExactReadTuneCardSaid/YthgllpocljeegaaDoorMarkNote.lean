/- Slices of Note: the laws' marks and the look again; lengths up to 2^20. -/
import Derived.Test.YthgllpocljeegaaDoorRowNote
namespace Go.Proofs.YthgllpocljeegaaDoor
open Go.RowKit

/-- k, k+1; k+2, k+3; .. -/
def upN (k : Int) (n : Nat) : List (Int × Int) := (List.range n).map fun (i : Nat) => (k + 2 * (i : Int), k + 2 * (i : Int) + 1)
theorem upN_len (k : Int) (n : Nat) : (upN k n).length = n := by simp [upN]
theorem upN_get {k : Int} {n i : Nat} (h : i < n) : gN (upN k n) i = (k + 2 * (i : Int), k + 2 * (i : Int) + 1) := by simp [gN, upN, h]
theorem upN_get' {k : Int} {n i : Nat} (h : i < (upN k n).length) : (upN k n)[i] = (k + 2 * (i : Int), k + 2 * (i : Int) + 1) := by simp [upN]
theorem set2N (l : List (Int × Int)) (k : Nat) (x y : Int) (h : k < l.length) : (((cN l).set (k * 2) (.int .i64 x)).set (k * 2 + 1) (.int .i64 y)) = cN (l.set k (x, y)) := cN_set l k (x, y) h

set_option maxHeartbeats 1600000 in
set_option maxRecDepth 100000 in
theorem markNoteS_any (lo : Nat) (v : Value) (l : List (Int × Int)) (k0 : Int) (w : World) (h1 : w.ownsRow lo 25 2 v l.length (cN l)) (hl : l.length ≤ 1048576) (hk0 : 0 ≤ k0) (hk1 : k0 ≤ 1000000000) :
    Calls Tryd.prog 20 #[v, .int .i64 k0] w fun e w' => e = .returned (.int .i64 (k0 + 2 * l.length)) ∧ w'.ownsRow lo 25 2 v l.length (cN (upN k0 l.length)) ∧ w.grownBy w' v.ownBlock := by
  obtain ⟨A1, c1, rfl⟩ := own_form h1
  go_enter Tryd.func20, Tryd.ntmps20
  go_wp2
  go_loopw [1, 5] (fun q i wr => ∃ k : Nat, k ≤ l.length ∧ i = .int .i64 k ∧ q = .int .i64 (k0 + 2 * k) ∧ w.grownBy wr (Value.slice A1 l.length c1).ownBlock ∧ wr.ownsRow lo 25 2 (.slice A1 l.length c1) l.length (cN ((upN k0 l.length).take k ++ l.drop k))) (fun _ i _ => l.length - (intOf i).toNat)
  case atStart => exact ⟨0, Nat.zero_le _, rfl, by simp, World.grownBy.refl _ _, by simpa using h1⟩
  case round =>
    obtain ⟨k, hk, rfl, rfl, bel, ow⟩ := hrel
    by_cases hlt : k < l.length
    · obtain ⟨b, o, rfl, hb, _⟩ := (Rd.of_own h1).look (by omega)
      obtain rfl : o = 0 := by
        rcases h1.2 with ⟨h, _⟩ | ⟨g, _, _, h, _⟩
        · simp at h
        · simp at h; exact h.1.2
      have hlen : ((upN k0 l.length).take k ++ l.drop k).length = l.length := by simp [upN_len]; omega
      have HL := Lib.hid hlen
      clear hlen
      have e0 : wr.cell? ⟨b, k * 2, none⟩ = some (.int .i64 (gN ((upN k0 l.length).take k ++ l.drop k) k).1) := (ow.cellAt _ (by omega)).trans (cN_get0 (by rw [HL.out]; exact hlt))
      have e1 : wr.cell? ⟨b, k * 2 + 1, none⟩ = some (.int .i64 (gN ((upN k0 l.length).take k ++ l.drop k) k).2) := (ow.cellAt _ (by omega)).trans (cN_get1 (by rw [HL.out]; exact hlt))
      have f0 := ow.frozenAt (k * 2)
      have f1 := ow.frozenAt (k * 2 + 1)
      have st0 := ow.stored (k * 2) (.int .i64 (k0 + 2 * k))
      have st1 := st0.1.stored (k * 2 + 1) (.int .i64 (k0 + 2 * k + 1))
      have ow' := st1.1
      rw [set2N _ _ _ _ (by rw [HL.out]; exact hlt), show (k0 + 2 * (k : Int), k0 + 2 * (k : Int) + 1) = (upN k0 l.length)[k]'(by rw [upN_len]; exact hlt) from (upN_get' _).symm, take_succ_set _ _ _ (by rw [upN_len]; exact hlt) (by rw [upN_len])] at ow'
      have gr' : w.grownBy ((wr.setCell ⟨b, k * 2, none⟩ (.int .i64 (k0 + 2 * k))).setCell ⟨b, k * 2 + 1, none⟩ (.int .i64 (k0 + 2 * k + 1))) (some b) := by
        have g0 : wr.grownBy (wr.setCell ⟨b, k * 2, none⟩ (.int .i64 (k0 + 2 * k))) (some b) := by simpa [Value.ownBlock] using st0.2
        have g1 : (wr.setCell ⟨b, k * 2, none⟩ (.int .i64 (k0 + 2 * k))).grownBy ((wr.setCell ⟨b, k * 2, none⟩ (.int .i64 (k0 + 2 * k))).setCell ⟨b, k * 2 + 1, none⟩ (.int .i64 (k0 + 2 * k + 1))) (some b) := by simpa [Value.ownBlock] using st1.2
        have gb : w.grownBy wr (some b) := by simpa [Value.ownBlock] using bel
        exact ⟨g1.os.trans (g0.os.trans gb.os), g1.tape.trans (g0.tape.trans gb.tape), g1.output.trans (g0.output.trans gb.output), Nat.le_trans gb.size (Nat.le_trans g0.size g1.size), fun i hi hn => (g1.block i (Nat.lt_of_lt_of_le hi (Nat.le_trans gb.size g0.size)) hn).trans ((g0.block i (Nat.lt_of_lt_of_le hi gb.size) hn).trans (gb.block i hi hn))⟩
      clear st0 st1 ow bel
      have hlt' : (k : Int) < (l.length : Int) := by omega
      clear h1
      go_wp2
      go_roundw
      case rel => exact ⟨k + 1, by omega, by go_num, by go_num, by simpa [Value.ownBlock] using gr', ow'⟩
      case measure => simp [intOf]; omega
    · have e : k = l.length := by omega
      have hd : (upN k0 l.length).take k ++ l.drop k = upN k0 l.length := by rw [e, List.drop_of_length_le (Nat.le_refl _), List.append_nil, List.take_of_length_le (by rw [upN_len]; exact Nat.le_refl _)]
      rw [hd] at ow
      clear hd
      go_wp2
      go_ret
      exact ⟨ret_int (by first | rfl | rw [e]), ow, bel⟩

set_option maxHeartbeats 1600000 in
set_option maxRecDepth 100000 in
theorem heldNoteS_any (v : Value) (n : Nat) (k0 : Int) (w : World) (h1 : Rd w 2 v n (cN (upN k0 n))) (hl : n ≤ 1048576) (hk0 : 0 ≤ k0) (hk1 : k0 ≤ 1000000000) :
    Calls Tryd.prog 21 #[v, .int .i64 k0] w fun e w' => e = .returned (.int .i64 (k0 + 2 * n)) ∧ w = w' := by
  obtain ⟨A1, c1, rfl, _, _⟩ := h1.form
  have h2 : RdN w (.slice A1 (upN k0 n).length c1) (upN k0 n) := by rw [RdN, upN_len]; exact h1
  go_enter Tryd.func21, Tryd.ntmps21
  go_wp2
  go_loop [1, 5] (fun q i => ∃ k : Nat, k ≤ n ∧ i = .int .i64 k ∧ q = .int .i64 (k0 + 2 * k)) (fun _ i => n - (intOf i).toNat)
  case atStart => exact ⟨0, Nat.zero_le _, rfl, by simp⟩
  case round =>
    obtain ⟨k, hk, rfl, rfl⟩ := hrel
    by_cases hlt : k < n
    · obtain ⟨b, o, rfl, hb, e0, e1⟩ := RdN.at_ h2 (k := k) (by rw [upN_len]; exact hlt)
      rw [upN_get hlt] at e0 e1
      have hlt' : (k : Int) < (n : Int) := by omega
      clear h1 h2
      go_wp2
      go_round
      case rel => exact ⟨k + 1, by omega, by go_num, by go_num⟩
      case measure => simp [intOf]; omega
    · have e : k = n := by omega
      clear h2
      go_wp2
      go_ret
      exact ⟨ret_int (by first | rfl | rw [e]), rfl⟩
end Go.Proofs.YthgllpocljeegaaDoor
