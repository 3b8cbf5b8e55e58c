/- StripOk and HolesIn of the program and of the reference; lengths up to 2^20. -/
import Derived.Test.YtbcmidencifcoaaStrip0
import Derived.Test.YtbcmidencifcoaaStStrip
import Derived.Test.YtbcmidencifcoaaNotesAt
namespace Go.Proofs.Ytbcmidencifcoaa
open Go.RowKit

set_option maxHeartbeats 1600000 in
set_option maxRecDepth 100000 in
theorem stripI_ok (n : Int) (v : Value) (l : List (Int × Int)) (w : World) (h1 : RdN w v l) (hl : l.length ≤ 1048576) :
    Calls Try.prog 23 #[.agg #[.int .i64 n, v]] w fun e w' => e = .returned (.bool (stripB n l)) ∧ Below w.heap.size w w' := by
  obtain ⟨A1, c1, rfl, hc, hm⟩ := h1.form
  unfold maxLen at hm
  cases hn : inB n 1 2000
  · go_enter Try.func23, Try.ntmps23
    go_wp2_with (go_at_call 57; refine (within_any _ _ _ _).mono ?_; rintro e w' ⟨rfl, rfl⟩)
    go_ret
    exact ⟨ret_bool (by simp [stripB, hn]), by (repeat' (first | (with_reducible exact Below.refl _ _) | (with_reducible refine bl_alloc ?_ _) | (with_reducible refine bl_drewN ?_ _) | (with_reducible refine bl_drew ?_) | (with_reducible assumption) | (with_reducible refine bl_to ?_ (by assumption)) | (with_reducible refine Below.trans ?_ (by assumption)) | (with_reducible refine Below.trans ?_ (Below.mono (by assumption) ?_)) | (with_reducible refine bl_set ?_ ?_ _) | (simp; done) | (simp; omega) | omega))⟩
  cases ht : tuneB l
  · go_enter Try.func23, Try.ntmps23
    go_wp2_with (first | (go_at_call 57; refine (within_any _ _ _ _).mono ?_; rintro e w' ⟨rfl, rfl⟩) | (go_at_call 54; refine (tuneI_ok _ l _ (h1.bl (by (repeat' (first | (with_reducible exact Below.refl _ _) | (with_reducible refine bl_alloc ?_ _) | (with_reducible refine bl_drewN ?_ _) | (with_reducible refine bl_drew ?_) | (with_reducible assumption) | (with_reducible refine bl_to ?_ (by assumption)) | (with_reducible refine Below.trans ?_ (by assumption)) | (with_reducible refine Below.trans ?_ (Below.mono (by assumption) ?_)) | (with_reducible refine bl_set ?_ ?_ _) | (simp; done) | (simp; omega) | omega)))) hl).mono ?_; rintro e w1 ⟨rfl, b1⟩; obtain ⟨k1, f1, z1⟩ := bcell b1))
    go_ret
    exact ⟨ret_bool (by simp [stripB, ht]), by (repeat' (first | (with_reducible exact Below.refl _ _) | (with_reducible refine bl_alloc ?_ _) | (with_reducible refine bl_drewN ?_ _) | (with_reducible refine bl_drew ?_) | (with_reducible assumption) | (with_reducible refine bl_to ?_ (by assumption)) | (with_reducible refine Below.trans ?_ (by assumption)) | (with_reducible refine Below.trans ?_ (Below.mono (by assumption) ?_)) | (with_reducible refine bl_set ?_ ?_ _) | (simp; done) | (simp; omega) | omega))⟩
  go_enter Try.func23, Try.ntmps23
  go_wp2_with (first | (go_at_call 57; refine (within_any _ _ _ _).mono ?_; rintro e w' ⟨rfl, rfl⟩) | (go_at_call 54; refine (tuneI_ok _ l _ (h1.bl (by (repeat' (first | (with_reducible exact Below.refl _ _) | (with_reducible refine bl_alloc ?_ _) | (with_reducible refine bl_drewN ?_ _) | (with_reducible refine bl_drew ?_) | (with_reducible assumption) | (with_reducible refine bl_to ?_ (by assumption)) | (with_reducible refine Below.trans ?_ (by assumption)) | (with_reducible refine Below.trans ?_ (Below.mono (by assumption) ?_)) | (with_reducible refine bl_set ?_ ?_ _) | (simp; done) | (simp; omega) | omega)))) hl).mono ?_; rintro e w1 ⟨rfl, b1⟩; obtain ⟨k1, f1, z1⟩ := bcell b1))
  have x0 : w1.cell? ⟨w.heap.size, 0, none⟩ = some (.int .i64 n) := (k1 _ _ (by (first | omega | (simp; done) | (simp; omega)))).trans (by simp [go_sem])
  have y0 : w.heap.size < w1.heap.size := z1 _ (by (first | omega | (simp; done) | (simp; omega)))
  have bel1 : Below w.heap.size w w1 := by (repeat' (first | (with_reducible exact Below.refl _ _) | (with_reducible refine bl_alloc ?_ _) | (with_reducible refine bl_drewN ?_ _) | (with_reducible refine bl_drew ?_) | (with_reducible assumption) | (with_reducible refine bl_to ?_ (by assumption)) | (with_reducible refine Below.trans ?_ (by assumption)) | (with_reducible refine Below.trans ?_ (Below.mono (by assumption) ?_)) | (with_reducible refine bl_set ?_ ?_ _) | (simp; done) | (simp; omega) | omega))
  clear k1 f1 z1 b1
  go_loopw [18] (fun i wr => ∃ k : Nat, k ≤ l.length ∧ i = .int .i64 k ∧ (∀ j : Nat, j < k → (gN l j).1 < n) ∧ Below w.heap.size w wr ∧ wr.cell? ⟨w.heap.size, 0, none⟩ = some (.int .i64 n) ∧ w.heap.size < wr.heap.size) (fun i _ => l.length - (intOf i).toNat)
  case atStart => exact ⟨0, Nat.zero_le _, rfl, fun j h => by omega, bel1, x0, y0⟩
  case round =>
    clear x0 y0 bel1
    obtain ⟨k, hk, rfl, ha, bel, x0, y0⟩ := hrel
    have HA := Lib.hid ha
    clear ha
    by_cases hlt : k < l.length
    · obtain ⟨b, o, rfl, hb, e0, e1⟩ := RdN.at_ (h1.bl bel) hlt
      have hlt' : (k : Int) < (l.length : Int) := by omega
      clear h1
      by_cases hs : (gN l k).1 < n
      · have hs' : ¬ n ≤ (gN l k).1 := by omega
        go_wp2
        go_roundw
        case rel => exact ⟨k + 1, by omega, by go_num, fun j hj => by by_cases e : j = k; (· rw [e]; exact hs); (· exact HA.out j (by omega)), by (repeat' (first | (with_reducible exact Below.refl _ _) | (with_reducible refine bl_alloc ?_ _) | (with_reducible refine bl_drewN ?_ _) | (with_reducible refine bl_drew ?_) | (with_reducible assumption) | (with_reducible refine bl_to ?_ (by assumption)) | (with_reducible refine Below.trans ?_ (by assumption)) | (with_reducible refine Below.trans ?_ (Below.mono (by assumption) ?_)) | (with_reducible refine bl_set ?_ ?_ _) | (simp; done) | (simp; omega) | omega)), by simp [go_sem, y0, x0], by simp; omega⟩
        case measure => simp [intOf]; omega
      · have hs' : n ≤ (gN l k).1 := by omega
        have hh := Lib.hid (stripB_no hlt hs)
        go_wp2
        go_ret
        exact ⟨ret_bool hh.out.symm, by (repeat' (first | (with_reducible exact Below.refl _ _) | (with_reducible refine bl_alloc ?_ _) | (with_reducible refine bl_drewN ?_ _) | (with_reducible refine bl_drew ?_) | (with_reducible assumption) | (with_reducible refine bl_to ?_ (by assumption)) | (with_reducible refine Below.trans ?_ (by assumption)) | (with_reducible refine Below.trans ?_ (Below.mono (by assumption) ?_)) | (with_reducible refine bl_set ?_ ?_ _) | (simp; done) | (simp; omega) | omega))⟩
    · obtain rfl : k = l.length := by omega
      have hh := Lib.hid (stripB_mk hn ht HA.out)
      go_wp2
      go_ret
      exact ⟨ret_bool hh.out.symm, bel⟩

set_option maxHeartbeats 1600000 in
set_option maxRecDepth 100000 in
theorem stripS_ok (n : Int) (v : Value) (l : List (Int × Int)) (w : World) (h1 : RdN w v l) (hl : l.length ≤ 1048576) :
    Calls Try.prog 21 #[.agg #[.int .i64 n, v]] w fun e w' => e = .returned (.bool (stripB n l)) ∧ Below w.heap.size w w' := by
  obtain ⟨A1, c1, rfl, hc, hm⟩ := h1.form
  unfold maxLen at hm
  cases hn : inB n 1 2000
  · go_enter Try.func21, Try.ntmps21
    go_wp2_with (go_at_call 56; refine (l01In_any _ _ _ _).mono ?_; rintro e w' ⟨rfl, rfl⟩)
    go_ret
    exact ⟨ret_bool (by simp [stripB, hn]), by (repeat' (first | (with_reducible exact Below.refl _ _) | (with_reducible refine bl_alloc ?_ _) | (with_reducible refine bl_drewN ?_ _) | (with_reducible refine bl_drew ?_) | (with_reducible assumption) | (with_reducible refine bl_to ?_ (by assumption)) | (with_reducible refine Below.trans ?_ (by assumption)) | (with_reducible refine Below.trans ?_ (Below.mono (by assumption) ?_)) | (with_reducible refine bl_set ?_ ?_ _) | (simp; done) | (simp; omega) | omega))⟩
  cases ht : tuneB l
  · go_enter Try.func21, Try.ntmps21
    go_wp2_with (first | (go_at_call 56; refine (l01In_any _ _ _ _).mono ?_; rintro e w' ⟨rfl, rfl⟩) | (go_at_call 52; refine (tuneS_ok _ l _ (h1.bl (by (repeat' (first | (with_reducible exact Below.refl _ _) | (with_reducible refine bl_alloc ?_ _) | (with_reducible refine bl_drewN ?_ _) | (with_reducible refine bl_drew ?_) | (with_reducible assumption) | (with_reducible refine bl_to ?_ (by assumption)) | (with_reducible refine Below.trans ?_ (by assumption)) | (with_reducible refine Below.trans ?_ (Below.mono (by assumption) ?_)) | (with_reducible refine bl_set ?_ ?_ _) | (simp; done) | (simp; omega) | omega)))) hl).mono ?_; rintro e w1 ⟨rfl, b1⟩; obtain ⟨k1, f1, z1⟩ := bcell b1))
    go_ret
    exact ⟨ret_bool (by simp [stripB, ht]), by (repeat' (first | (with_reducible exact Below.refl _ _) | (with_reducible refine bl_alloc ?_ _) | (with_reducible refine bl_drewN ?_ _) | (with_reducible refine bl_drew ?_) | (with_reducible assumption) | (with_reducible refine bl_to ?_ (by assumption)) | (with_reducible refine Below.trans ?_ (by assumption)) | (with_reducible refine Below.trans ?_ (Below.mono (by assumption) ?_)) | (with_reducible refine bl_set ?_ ?_ _) | (simp; done) | (simp; omega) | omega))⟩
  have cells : ∀ {w1 : World}, Below (w.alloc (Obj.cells #[.int .i64 n, .slice A1 l.length c1] 34)).heap.size (w.alloc (Obj.cells #[.int .i64 n, .slice A1 l.length c1] 34)) w1 → w1.cell? ⟨w.heap.size, 0, none⟩ = some (.int .i64 n) ∧ w1.cell? ⟨w.heap.size, 1, none⟩ = some (.slice A1 l.length c1) := fun b =>
    ⟨(b.cell (p := ⟨w.heap.size, 0, none⟩) (by simp)).trans (by simp [go_sem]), (b.cell (p := ⟨w.heap.size, 1, none⟩) (by simp)).trans (by simp [go_sem])⟩
  by_cases h0 : l.length = 0
  · have hh := Lib.hid (stripB_empty hn ht h0)
    have hb0 : ((l.length : Int) == 0) = true := by rw [h0]; rfl
    have hb2 : decide (l.length = 0) = true := by rw [h0]; rfl
    have hb3 : (l.length == 0) = true := by rw [h0]; rfl
    clear h0
    go_enter Try.func21, Try.ntmps21
    go_wp2_with (first | (go_at_call 56; refine (l01In_any _ _ _ _).mono ?_; rintro e w' ⟨rfl, rfl⟩) | ((go_at_call 52; refine (tuneS_ok _ l _ (h1.bl (by (repeat' (first | (with_reducible exact Below.refl _ _) | (with_reducible refine bl_alloc ?_ _) | (with_reducible refine bl_drewN ?_ _) | (with_reducible refine bl_drew ?_) | (with_reducible assumption) | (with_reducible refine bl_to ?_ (by assumption)) | (with_reducible refine Below.trans ?_ (by assumption)) | (with_reducible refine Below.trans ?_ (Below.mono (by assumption) ?_)) | (with_reducible refine bl_set ?_ ?_ _) | (simp; done) | (simp; omega) | omega)))) hl).mono ?_; rintro e w1 ⟨rfl, b1⟩; obtain ⟨k1, f1, z1⟩ := bcell b1); obtain ⟨x0, x1⟩ := cells b1))
    clear cells
    go_quiet (fail)
    go_wp2
    go_ret
    exact ⟨ret_bool hh.out.symm, by (repeat' (first | (with_reducible exact Below.refl _ _) | (with_reducible refine bl_alloc ?_ _) | (with_reducible refine bl_drewN ?_ _) | (with_reducible refine bl_drew ?_) | (with_reducible assumption) | (with_reducible refine bl_to ?_ (by assumption)) | (with_reducible refine Below.trans ?_ (by assumption)) | (with_reducible refine Below.trans ?_ (Below.mono (by assumption) ?_)) | (with_reducible refine bl_set ?_ ?_ _) | (simp; done) | (simp; omega) | omega))⟩
  · have hh := Lib.hid (stripB_last hn ht (by omega))
    have hb0 : ((l.length : Int) == 0) = false := by rw [beq_eq_false_iff_ne]; omega
    have kt : ((l.length : Int) - 1).toNat = l.length - 1 := by omega
    have k0 : (0 : Int) ≤ (l.length : Int) - 1 := by omega
    have k2 : (l.length : Int) - 1 < (l.length : Int) := by omega
    obtain ⟨b, o, rfl, hb, e0, e1⟩ := RdN.at_ h1 (k := l.length - 1) (by omega)
    have kw : IntKind.i64.wrap ((l.length : Int) - 1) = (l.length : Int) - 1 := IntWalk.i64_in _ (by omega)
    have kz1 : (1 : Int) ≤ (l.length : Int) := by omega
    have kz2 : 0 < l.length := by omega
    have kz3 : (0 : Int) < (l.length : Int) := by omega
    clear h0 e1
    go_enter Try.func21, Try.ntmps21
    go_wp2_with (first | (go_at_call 56; refine (l01In_any _ _ _ _).mono ?_; rintro e w' ⟨rfl, rfl⟩) | ((go_at_call 52; refine (tuneS_ok _ l _ (h1.bl (by (repeat' (first | (with_reducible exact Below.refl _ _) | (with_reducible refine bl_alloc ?_ _) | (with_reducible refine bl_drewN ?_ _) | (with_reducible refine bl_drew ?_) | (with_reducible assumption) | (with_reducible refine bl_to ?_ (by assumption)) | (with_reducible refine Below.trans ?_ (by assumption)) | (with_reducible refine Below.trans ?_ (Below.mono (by assumption) ?_)) | (with_reducible refine bl_set ?_ ?_ _) | (simp; done) | (simp; omega) | omega)))) hl).mono ?_; rintro e w1 ⟨rfl, b1⟩; obtain ⟨k1, f1, z1⟩ := bcell b1); obtain ⟨x0, x1⟩ := cells b1; have e0' : w1.cell? ⟨b, o + (l.length - 1) * 2, none⟩ = some (.int .i64 (gN l (l.length - 1)).1) := (b1.cell (p := ⟨b, o + (l.length - 1) * 2, none⟩) (by simp; omega)).trans ((World.cell?_alloc_lt w _ ⟨b, o + (l.length - 1) * 2, none⟩ hb).trans e0)))
    clear cells h1 e0 k1 f1 z1
    go_quiet (fail)
    clear kw
    go_wp2
    go_ret
    exact ⟨ret_bool hh.out.symm, by (repeat' (first | (with_reducible exact Below.refl _ _) | (with_reducible refine bl_alloc ?_ _) | (with_reducible refine bl_drewN ?_ _) | (with_reducible refine bl_drew ?_) | (with_reducible assumption) | (with_reducible refine bl_to ?_ (by assumption)) | (with_reducible refine Below.trans ?_ (by assumption)) | (with_reducible refine Below.trans ?_ (Below.mono (by assumption) ?_)) | (with_reducible refine bl_set ?_ ?_ _) | (simp; done) | (simp; omega) | omega))⟩

set_option maxHeartbeats 1600000 in
set_option maxRecDepth 100000 in
theorem hinI_any (n : Int) (v : Value) (l : List (Int × Int)) (a b : Int) (w : World) (h1 : RdN w v l) (hl : l.length ≤ 1048576) :
    Calls Try.prog 28 #[.agg #[.int .i64 n, v], .int .i64 a, .int .i64 b] w fun e w' => e = .returned (.int .i64 (hinF n l a b)) ∧ Below w.heap.size w w' := by
  obtain ⟨A1, c1, rfl, hc, hm⟩ := h1.form
  unfold maxLen at hm
  cases ho : stripB n l
  · go_enter Try.func28, Try.ntmps28
    go_wp2_with (go_at_call 23; refine (stripI_ok _ _ l _ (h1.bl (by (repeat' (first | (with_reducible exact Below.refl _ _) | (with_reducible refine bl_alloc ?_ _) | (with_reducible refine bl_drewN ?_ _) | (with_reducible refine bl_drew ?_) | (with_reducible assumption) | (with_reducible refine bl_to ?_ (by assumption)) | (with_reducible refine Below.trans ?_ (by assumption)) | (with_reducible refine Below.trans ?_ (Below.mono (by assumption) ?_)) | (with_reducible refine bl_set ?_ ?_ _) | (simp; done) | (simp; omega) | omega)))) hl).mono ?_; rintro e w1 ⟨rfl, b1⟩; obtain ⟨k1, f1, z1⟩ := bcell b1)
    go_ret
    exact ⟨ret_int (by simp [hinF, ho]), by (repeat' (first | (with_reducible exact Below.refl _ _) | (with_reducible refine bl_alloc ?_ _) | (with_reducible refine bl_drewN ?_ _) | (with_reducible refine bl_drew ?_) | (with_reducible assumption) | (with_reducible refine bl_to ?_ (by assumption)) | (with_reducible refine Below.trans ?_ (by assumption)) | (with_reducible refine Below.trans ?_ (Below.mono (by assumption) ?_)) | (with_reducible refine bl_set ?_ ?_ _) | (simp; done) | (simp; omega) | omega))⟩
  have hF : hinF n l a b = hinN l a b l.length := by simp [hinF, ho]
  rw [hF]
  clear hF
  go_enter Try.func28, Try.ntmps28
  go_wp2_with ((go_at_call 23; refine (stripI_ok _ _ l _ (h1.bl (by (repeat' (first | (with_reducible exact Below.refl _ _) | (with_reducible refine bl_alloc ?_ _) | (with_reducible refine bl_drewN ?_ _) | (with_reducible refine bl_drew ?_) | (with_reducible assumption) | (with_reducible refine bl_to ?_ (by assumption)) | (with_reducible refine Below.trans ?_ (by assumption)) | (with_reducible refine Below.trans ?_ (Below.mono (by assumption) ?_)) | (with_reducible refine bl_set ?_ ?_ _) | (simp; done) | (simp; omega) | omega)))) hl).mono ?_; rintro e w1 ⟨rfl, b1⟩; obtain ⟨k1, f1, z1⟩ := bcell b1); have x1 : w1.cell? ⟨w.heap.size, 1, none⟩ = some (.slice A1 l.length c1) := (k1 _ _ (by (first | omega | (simp; done) | (simp; omega)))).trans (by simp [go_sem]))
  have bel1 : Below w.heap.size w w1 := by (repeat' (first | (with_reducible exact Below.refl _ _) | (with_reducible refine bl_alloc ?_ _) | (with_reducible refine bl_drewN ?_ _) | (with_reducible refine bl_drew ?_) | (with_reducible assumption) | (with_reducible refine bl_to ?_ (by assumption)) | (with_reducible refine Below.trans ?_ (by assumption)) | (with_reducible refine Below.trans ?_ (Below.mono (by assumption) ?_)) | (with_reducible refine bl_set ?_ ?_ _) | (simp; done) | (simp; omega) | omega))
  clear k1 f1 z1 b1
  go_loopw [7, 16] (fun c i wr => ∃ k : Nat, k ≤ l.length ∧ i = .int .i64 k ∧ c = .int .i64 (hinN l a b k) ∧ Below w.heap.size w wr) (fun _ i _ => l.length - (intOf i).toNat)
  case atStart => exact ⟨0, Nat.zero_le _, rfl, rfl, bel1⟩
  case round =>
    clear bel1
    obtain ⟨k, hk, rfl, rfl, bel⟩ := hrel
    obtain ⟨q0, q1⟩ := hinN_bd l a b k
    by_cases hlt : k < l.length
    · obtain ⟨g, o, rfl, hb, e0, e1⟩ := RdN.at_ (h1.bl bel) hlt
      have hlt' : (k : Int) < (l.length : Int) := by omega
      clear h1
      by_cases ha : a ≤ (gN l k).1
      · by_cases hz : (gN l k).1 < b
        · have hh := Lib.hid (hinN_yes ha hz)
          go_wp2
          go_roundw
          case rel => exact ⟨k + 1, by omega, by go_num, by rw [hh.out], by (repeat' (first | (with_reducible exact Below.refl _ _) | (with_reducible refine bl_alloc ?_ _) | (with_reducible refine bl_drewN ?_ _) | (with_reducible refine bl_drew ?_) | (with_reducible assumption) | (with_reducible refine bl_to ?_ (by assumption)) | (with_reducible refine Below.trans ?_ (by assumption)) | (with_reducible refine Below.trans ?_ (Below.mono (by assumption) ?_)) | (with_reducible refine bl_set ?_ ?_ _) | (simp; done) | (simp; omega) | omega))⟩
          case measure => simp [intOf]; omega
        · have hh := Lib.hid (hinN_no2 (a := a) hz)
          go_wp2
          go_roundw
          case rel => exact ⟨k + 1, by omega, by go_num, by rw [hh.out], by (repeat' (first | (with_reducible exact Below.refl _ _) | (with_reducible refine bl_alloc ?_ _) | (with_reducible refine bl_drewN ?_ _) | (with_reducible refine bl_drew ?_) | (with_reducible assumption) | (with_reducible refine bl_to ?_ (by assumption)) | (with_reducible refine Below.trans ?_ (by assumption)) | (with_reducible refine Below.trans ?_ (Below.mono (by assumption) ?_)) | (with_reducible refine bl_set ?_ ?_ _) | (simp; done) | (simp; omega) | omega))⟩
          case measure => simp [intOf]; omega
      · have hh := Lib.hid (hinN_no1 (b := b) ha)
        go_wp2
        go_roundw
        case rel => exact ⟨k + 1, by omega, by go_num, by rw [hh.out], by (repeat' (first | (with_reducible exact Below.refl _ _) | (with_reducible refine bl_alloc ?_ _) | (with_reducible refine bl_drewN ?_ _) | (with_reducible refine bl_drew ?_) | (with_reducible assumption) | (with_reducible refine bl_to ?_ (by assumption)) | (with_reducible refine Below.trans ?_ (by assumption)) | (with_reducible refine Below.trans ?_ (Below.mono (by assumption) ?_)) | (with_reducible refine bl_set ?_ ?_ _) | (simp; done) | (simp; omega) | omega))⟩
        case measure => simp [intOf]; omega
    · obtain rfl : k = l.length := by omega
      go_wp2
      go_ret
      exact ⟨rfl, bel⟩

set_option maxHeartbeats 1600000 in
set_option maxRecDepth 100000 in
theorem hinS_any (n : Int) (v : Value) (l : List (Int × Int)) (a b : Int) (w : World) (h1 : RdN w v l) (hl : l.length ≤ 1048576) :
    Calls Try.prog 27 #[.agg #[.int .i64 n, v], .int .i64 a, .int .i64 b] w fun e w' => e = .returned (.int .i64 (hinF n l a b)) ∧ Below w.heap.size w w' := by
  obtain ⟨A1, c1, rfl, hc, hm⟩ := h1.form
  unfold maxLen at hm
  cases ho : stripB n l
  · go_enter Try.func27, Try.ntmps27
    go_wp2_with (go_at_call 21; refine (stripS_ok _ _ l _ (h1.bl (by (repeat' (first | (with_reducible exact Below.refl _ _) | (with_reducible refine bl_alloc ?_ _) | (with_reducible refine bl_drewN ?_ _) | (with_reducible refine bl_drew ?_) | (with_reducible assumption) | (with_reducible refine bl_to ?_ (by assumption)) | (with_reducible refine Below.trans ?_ (by assumption)) | (with_reducible refine Below.trans ?_ (Below.mono (by assumption) ?_)) | (with_reducible refine bl_set ?_ ?_ _) | (simp; done) | (simp; omega) | omega)))) hl).mono ?_; rintro e w1 ⟨rfl, b1⟩; obtain ⟨k1, f1, z1⟩ := bcell b1)
    go_ret
    exact ⟨ret_int (by simp [hinF, ho]), by (repeat' (first | (with_reducible exact Below.refl _ _) | (with_reducible refine bl_alloc ?_ _) | (with_reducible refine bl_drewN ?_ _) | (with_reducible refine bl_drew ?_) | (with_reducible assumption) | (with_reducible refine bl_to ?_ (by assumption)) | (with_reducible refine Below.trans ?_ (by assumption)) | (with_reducible refine Below.trans ?_ (Below.mono (by assumption) ?_)) | (with_reducible refine bl_set ?_ ?_ _) | (simp; done) | (simp; omega) | omega))⟩
  have hF : hinF n l a b = hinN l a b l.length := by simp [hinF, ho]
  rw [hF]
  clear hF
  go_enter Try.func27, Try.ntmps27
  go_wp2_with ((go_at_call 21; refine (stripS_ok _ _ l _ (h1.bl (by (repeat' (first | (with_reducible exact Below.refl _ _) | (with_reducible refine bl_alloc ?_ _) | (with_reducible refine bl_drewN ?_ _) | (with_reducible refine bl_drew ?_) | (with_reducible assumption) | (with_reducible refine bl_to ?_ (by assumption)) | (with_reducible refine Below.trans ?_ (by assumption)) | (with_reducible refine Below.trans ?_ (Below.mono (by assumption) ?_)) | (with_reducible refine bl_set ?_ ?_ _) | (simp; done) | (simp; omega) | omega)))) hl).mono ?_; rintro e w1 ⟨rfl, b1⟩; obtain ⟨k1, f1, z1⟩ := bcell b1); have x1 : w1.cell? ⟨w.heap.size, 1, none⟩ = some (.slice A1 l.length c1) := (k1 _ _ (by (first | omega | (simp; done) | (simp; omega)))).trans (by simp [go_sem]); have y0 : w.heap.size < w1.heap.size := z1 _ (by (first | omega | (simp; done) | (simp; omega))))
  have bel1 : Below w.heap.size w w1 := by (repeat' (first | (with_reducible exact Below.refl _ _) | (with_reducible refine bl_alloc ?_ _) | (with_reducible refine bl_drewN ?_ _) | (with_reducible refine bl_drew ?_) | (with_reducible assumption) | (with_reducible refine bl_to ?_ (by assumption)) | (with_reducible refine Below.trans ?_ (by assumption)) | (with_reducible refine Below.trans ?_ (Below.mono (by assumption) ?_)) | (with_reducible refine bl_set ?_ ?_ _) | (simp; done) | (simp; omega) | omega))
  clear k1 f1 z1 b1
  have h2 := h1.bl bel1
  go_loop [7, 8] (fun c i => ∃ k : Nat, k ≤ l.length ∧ i = .int .i64 k ∧ c = .int .i64 (hinN l a b k)) (fun _ i => l.length - (intOf i).toNat)
  case atStart => exact ⟨0, Nat.zero_le _, rfl, rfl⟩
  case round =>
    obtain ⟨k, hk, rfl, rfl⟩ := hrel
    obtain ⟨q0, q1⟩ := hinN_bd l a b k
    by_cases hlt : k < l.length
    · obtain ⟨g, o, rfl, hb, e0, e1⟩ := RdN.at_ h2 hlt
      have hlt' : (k : Int) < (l.length : Int) := by omega
      clear h1 h2
      by_cases ha : a ≤ (gN l k).1
      · by_cases hz : (gN l k).1 < b
        · have hh := Lib.hid (hinN_yes ha hz)
          go_wp2
          go_round
          case rel => exact ⟨k + 1, by omega, by go_num, by rw [hh.out]⟩
          case measure => simp [intOf]; omega
        · have hh := Lib.hid (hinN_no2 (a := a) hz)
          go_wp2
          go_round
          case rel => exact ⟨k + 1, by omega, by go_num, by rw [hh.out]⟩
          case measure => simp [intOf]; omega
      · have hh := Lib.hid (hinN_no1 (b := b) ha)
        go_wp2
        go_round
        case rel => exact ⟨k + 1, by omega, by go_num, by rw [hh.out]⟩
        case measure => simp [intOf]; omega
    · obtain rfl : k = l.length := by omega
      have hlt' : ¬ (l.length : Int) < (l.length : Int) := by omega
      go_wp2
      go_ret
      exact ⟨rfl, bel1⟩
end Go.Proofs.Ytbcmidencifcoaa
