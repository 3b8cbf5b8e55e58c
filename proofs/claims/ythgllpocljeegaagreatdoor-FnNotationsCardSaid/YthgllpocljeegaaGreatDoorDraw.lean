/- The draws: a cursor over the bytes of the argument; each draw writes the cursor's block alone. Lengths up to 2^20. -/
import Derived.Test.YthgllpocljeegaaGreatDoorData
namespace Go.Proofs.YthgllpocljeegaaGreatDoor
open Go.RowKit

def cB (l : List Int) : List Value := l.map (.int .u8 ·)
theorem cB_get {l : List Int} {k : Nat} (h : k < l.length) : (cB l)[k]? = some (.int .u8 (gi l k)) := by simp [cB, gi, h]
def RdB (w : World) (v : Value) (l : List Int) : Prop := Rd w 1 v l.length (cB l)

/-- block cb is a cursor over v; w0: the world in which v was read -/
structure Cur (w0 w : World) (cb : Nat) (v : Value) (L : List Int) : Prop where
  bel : Below w0.heap.size w0 w
  low : w0.heap.size ≤ cb
  c0 : w.cell? ⟨cb, 0, none⟩ = some v
  c1 : ∃ i : Nat, i ≤ L.length ∧ w.cell? ⟨cb, 1, none⟩ = some (.int .i64 i)
  c2 : ∃ h : Int, w.cell? ⟨cb, 2, none⟩ = some (.int .i64 h)
  f1 : w.frozen? ⟨cb, 1, none⟩ = false
  f2 : w.frozen? ⟨cb, 2, none⟩ = false

theorem and255 (x : Int) : 0 ≤ bits .and .i64 x 255 ∧ bits .and .i64 x 255 ≤ 255 := by
  have e : bits .and .i64 x 255 = IntKind.i64.wrap ((BitVec.ofInt 64 x &&& BitVec.ofInt 64 255).toNat : Int) := rfl
  have h : (BitVec.ofInt 64 x &&& BitVec.ofInt 64 255).toNat ≤ 255 := by
    rw [BitVec.toNat_and]
    exact Nat.le_trans Nat.and_le_right (by decide)
  rw [e, IntKind.wrap_i64]
  omega
theorem gr_set {a w : World} {cb o : Nat} {u : Value} (h : a.grownBy w (some cb)) : a.grownBy (w.setCell ⟨cb, o, none⟩ u) (some cb) :=
  ⟨h.os, h.tape, h.output, by simpa using h.size, fun k hk hn => (Below.heap_setCell w ⟨cb, o, none⟩ u k (fun e => hn (by rw [e]))).trans (h.block k hk hn)⟩
theorem gr_drew {a w : World} {r : Option Nat} (h : a.grownBy w r) : a.grownBy w.drew r := ⟨h.os, h.tape, h.output, h.size, h.block⟩
theorem gr_drewN {a w : World} {r : Option Nat} (h : a.grownBy w r) (n : Nat) : a.grownBy (w.drewN n) r := ⟨h.os, h.tape, h.output, h.size, h.block⟩
theorem gr_tr {a b c : World} {g : Option Nat} (h : a.grownBy b g) (k : b.grownBy c g) : a.grownBy c g :=
  ⟨k.os.trans h.os, k.tape.trans h.tape, k.output.trans h.output, Nat.le_trans h.size k.size, fun i hi hn => (k.block i (Nat.lt_of_lt_of_le hi h.size) hn).trans (h.block i hi hn)⟩

set_option maxHeartbeats 800000 in
theorem byte_any (w0 : World) (cb : Nat) (v : Value) (L : List Int) (w : World) (h0 : RdB w0 v L) (hl : L.length ≤ 1048576) (hc : Cur w0 w cb v L) :
    Calls Tryz.prog 44 #[.pointer (some ⟨cb, 0, none⟩)] w fun e w' => ∃ x : Int, 0 ≤ x ∧ x ≤ 255 ∧ e = .returned (.int .i64 x) ∧ Cur w0 w' cb v L ∧ w.grownBy w' (some cb) := by
  obtain ⟨bel, low, c0, ⟨i, hi, c1⟩, ⟨h, c2⟩, f1, f2⟩ := hc
  obtain ⟨A, c, rfl, _, hm⟩ := h0.form
  unfold maxLen at hm
  by_cases hlt : i < L.length
  · obtain ⟨g, o, rfl, hg, rd⟩ := h0.look (by omega)
    have e1 := (bel.cell (p := ⟨g, o + i, none⟩) hg).trans (rd i _ (cB_get hlt))
    clear rd h0
    go_enter Tryz.func44, Tryz.ntmps44
    have ne : g ≠ cb := by omega
    go_wp2
    go_region
    go_wp2
    go_region
    go_wp2
    go_region
    go_wp2
    go_ret
    refine ⟨_, (and255 _).1, (and255 _).2, rfl, ⟨?_, low, ?_, ⟨i + 1, by omega, ?_⟩, ⟨wrap64 (wrap64 (h * 6364136223846793005) + 1442695040888963407), ?_⟩, ?_, ?_⟩, ?_⟩
    · (repeat' (first | (with_reducible exact Below.refl _ _) | (with_reducible refine bl_alloc ?_ _) | (with_reducible refine bl_drewN ?_ _) | (with_reducible refine bl_drew ?_) | (with_reducible assumption) | (with_reducible refine bl_to ?_ (by assumption)) | (with_reducible refine Below.trans ?_ (by assumption)) | (with_reducible refine Below.trans ?_ (Below.mono (by assumption) ?_)) | (with_reducible refine bl_set ?_ ?_ _) | (simp; done) | (simp; omega) | omega))
    · simp [go_sem, c0]
    · simp [go_sem, c1]
    · simp [go_sem, c2]
    · simp [go_sem, f1]
    · simp [go_sem, f2]
    · repeat (first | exact World.grownBy.refl _ _ | apply gr_set | apply gr_drew | apply gr_drewN)
  · have hd : decide ((i : Int) < (L.length : Int)) = false := by simp; omega
    clear h0
    go_enter Tryz.func44, Tryz.ntmps44
    go_wp2
    go_region
    go_wp2
    go_region
    go_wp2
    go_ret
    refine ⟨_, (and255 _).1, (and255 _).2, rfl, ⟨?_, low, ?_, ⟨i, by omega, ?_⟩, ⟨wrap64 (wrap64 (h * 6364136223846793005) + 1442695040888963407), ?_⟩, ?_, ?_⟩, ?_⟩
    · (repeat' (first | (with_reducible exact Below.refl _ _) | (with_reducible refine bl_alloc ?_ _) | (with_reducible refine bl_drewN ?_ _) | (with_reducible refine bl_drew ?_) | (with_reducible assumption) | (with_reducible refine bl_to ?_ (by assumption)) | (with_reducible refine Below.trans ?_ (by assumption)) | (with_reducible refine Below.trans ?_ (Below.mono (by assumption) ?_)) | (with_reducible refine bl_set ?_ ?_ _) | (simp; done) | (simp; omega) | omega))
    · simp [go_sem, c0]
    · simp [go_sem, c1]
    · simp [go_sem, c2]
    · simp [go_sem, f1]
    · simp [go_sem, f2]
    · repeat (first | exact World.grownBy.refl _ _ | apply gr_set | apply gr_drew | apply gr_drewN)

set_option maxHeartbeats 800000 in
theorem below_any (n : Int) (w0 : World) (cb : Nat) (v : Value) (L : List Int) (w : World) (h0 : RdB w0 v L) (hl : L.length ≤ 1048576) (hc : Cur w0 w cb v L) :
    Calls Tryz.prog 27 #[.pointer (some ⟨cb, 0, none⟩), .int .i64 n] w fun e w' => ∃ x : Int, (0 ≤ x ∧ (0 < n → x < n)) ∧ e = .returned (.int .i64 x) ∧ Cur w0 w' cb v L ∧ w.grownBy w' (some cb) := by
  by_cases n0 : n ≤ 0
  · go_enter Tryz.func27, Tryz.ntmps27
    go_wp2
    go_ret
    exact ⟨0, ⟨by omega, fun h => by omega⟩, rfl, hc, World.grownBy.refl _ _⟩
  have hn : 0 < n := by omega
  by_cases n1 : n ≤ 256
  · go_enter Tryz.func27, Tryz.ntmps27
    go_wp2_with (go_at_call 44; refine (byte_any _ _ _ _ _ h0 hl hc).mono ?_; rintro e w1 ⟨x1, lo1, hi1, rfl, hc1, g1⟩)
    go_ret
    exact ⟨_, ⟨Int.emod_nonneg _ (by omega), fun _ => Int.emod_lt_of_pos _ hn⟩, rfl, hc1, g1⟩
  · go_enter Tryz.func27, Tryz.ntmps27
    go_wp2_with (first | (go_at_call 44; refine (byte_any _ _ _ _ _ h0 hl hc3).mono ?_; rintro e w4 ⟨x4, lo4, hi4, rfl, hc4, g4⟩) | (go_at_call 44; refine (byte_any _ _ _ _ _ h0 hl hc2).mono ?_; rintro e w3 ⟨x3, lo3, hi3, rfl, hc3, g3⟩) | (go_at_call 44; refine (byte_any _ _ _ _ _ h0 hl hc1).mono ?_; rintro e w2 ⟨x2, lo2, hi2, rfl, hc2, g2⟩) | (go_at_call 44; refine (byte_any _ _ _ _ _ h0 hl hc).mono ?_; rintro e w1 ⟨x1, lo1, hi1, rfl, hc1, g1⟩))
    go_ret
    exact ⟨_, ⟨Int.emod_nonneg _ (by omega), fun _ => Int.emod_lt_of_pos _ hn⟩, rfl, hc4, gr_tr g1 (gr_tr g2 (gr_tr g3 g4))⟩

set_option maxHeartbeats 800000 in
theorem new_any (v : Value) (L : List Int) (w : World) (h0 : RdB w v L) (hl : L.length ≤ 1048576) :
    Calls Tryz.prog 15 #[v] w fun e w' => e = .returned (.pointer (some ⟨w.heap.size, 0, none⟩)) ∧ Cur w w' w.heap.size v L := by
  obtain ⟨A, c, rfl, hcc, hm⟩ := h0.form
  unfold maxLen at hm
  go_enter Tryz.func15, Tryz.ntmps15
  go_wp2
  go_loop [3, 4] (fun h i => ∃ (k : Nat) (x : Int), k ≤ L.length ∧ i = .int .i64 k ∧ h = .int .i64 x) (fun _ i => L.length - (intOf i).toNat)
  case atStart => exact ⟨0, _, Nat.zero_le _, rfl, rfl⟩
  case round =>
    obtain ⟨k, x, hk, rfl, rfl⟩ := hrel
    by_cases h1 : k < L.length
    · have h1' : (k : Int) < (L.length : Int) := by omega
      obtain ⟨g, o, rfl, hg, rd⟩ := h0.look (by omega)
      have e1 := rd k _ (cB_get h1)
      clear rd
      by_cases h2 : (k : Int) < 4000
      · go_wp2
        go_round
        case rel => exact ⟨k + 1, _, by omega, by go_num, rfl⟩
        case measure => simp [intOf]; omega
      · go_wp2
        go_ret
        exact ⟨rfl, by (repeat' (first | (with_reducible exact Below.refl _ _) | (with_reducible refine bl_alloc ?_ _) | (with_reducible refine bl_drewN ?_ _) | (with_reducible refine bl_drew ?_) | (with_reducible assumption) | (with_reducible refine bl_to ?_ (by assumption)) | (with_reducible refine Below.trans ?_ (by assumption)) | (with_reducible refine Below.trans ?_ (Below.mono (by assumption) ?_)) | (with_reducible refine bl_set ?_ ?_ _) | (simp; done) | (simp; omega) | omega)), Nat.le_refl _, by simp [go_sem], ⟨0, Nat.zero_le _, by simp [go_sem]⟩, ⟨x, by simp [go_sem]⟩, by simp [go_sem], by simp [go_sem]⟩
    · have h1' : ¬ (k : Int) < (L.length : Int) := by omega
      go_wp2
      go_ret
      exact ⟨rfl, by (repeat' (first | (with_reducible exact Below.refl _ _) | (with_reducible refine bl_alloc ?_ _) | (with_reducible refine bl_drewN ?_ _) | (with_reducible refine bl_drew ?_) | (with_reducible assumption) | (with_reducible refine bl_to ?_ (by assumption)) | (with_reducible refine Below.trans ?_ (by assumption)) | (with_reducible refine Below.trans ?_ (Below.mono (by assumption) ?_)) | (with_reducible refine bl_set ?_ ?_ _) | (simp; done) | (simp; omega) | omega)), Nat.le_refl _, by simp [go_sem], ⟨0, Nat.zero_le _, by simp [go_sem]⟩, ⟨x, by simp [go_sem]⟩, by simp [go_sem], by simp [go_sem]⟩

set_option maxHeartbeats 400000 in
theorem bigB_any (v : Value) (L : List Int) (w : World) (h0 : RdB w v L) :
    Calls Tryz.prog 4 #[v] w fun e w' => e = .returned (.bool (decide ((1048576 : Int) < L.length))) ∧ w = w' := by
  obtain ⟨A, c, rfl, hcc, hm⟩ := h0.form
  unfold maxLen at hm
  go_enter Tryz.func4, Tryz.ntmps4
  go_wp2
  go_ret
  exact ⟨rfl, rfl⟩
end Go.Proofs.YthgllpocljeegaaGreatDoor
