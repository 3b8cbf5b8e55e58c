/- Wear: Silent, l25Copy of the reference, Renewed of both; lengths up to 2^20. -/
import Derived.Test.YtoijjjaodfincaaWear
namespace Go.Proofs.Ytoijjjaodfincaa
open Go.RowKit

theorem l25Copy_any (n : Int) (v : Value) (l : List Int) (w : World) (h1 : RdI w v l) (hl : l.length ≤ 1048576) :
    Calls Try.prog 75 #[.agg #[v, .int .i64 n]] w (NewWear n l w) := by
  have hO : (((w.alloc (.cells #[v, .int .i64 n] 41)).alloc (.cells #[.slice none 0 0, .int .i64 0] 41)).alloc (.cells #[] 3)).drew.ownsRow (w.heap.size + 2) 3 1 (.slice (some ⟨w.heap.size + 1 + 1, 0, none⟩) 0 0) 0 [] := own_new0d (by omega) (by simp)
  have hR : RdI (((w.alloc (.cells #[v, .int .i64 n] 41)).alloc (.cells #[.slice none 0 0, .int .i64 0] 41)).alloc (.cells #[] 3)).drew v l := h1.bl (by (repeat' (first | (with_reducible exact Below.refl _ _) | (with_reducible refine bl_alloc ?_ _) | (with_reducible refine bl_drewN ?_ _) | (with_reducible refine bl_drew ?_) | (with_reducible assumption) | (with_reducible refine bl_to ?_ (by assumption)) | (with_reducible refine Below.trans ?_ (by assumption)) | (with_reducible refine Below.trans ?_ (Below.mono (by assumption) ?_)) | (with_reducible refine bl_set ?_ ?_ _) | (simp; done) | (simp; omega) | omega)))
  have hS : w.heap.size + 2 ≤ (((w.alloc (.cells #[v, .int .i64 n] 41)).alloc (.cells #[.slice none 0 0, .int .i64 0] 41)).alloc (.cells #[] 3)).drew.heap.size := by (first | omega | (simp; done) | (simp; omega))
  have hL : ([] : List Int).length + l.length ≤ 4194304 := by simp; omega
  go_enter Try.func75, Try.ntmps75
  go_wp2
  go_region_law (refine step_is_append (.tmp 3) (.tmp 5) _ rfl ?_; refine step_app_ints _ rfl _ _ rfl (w.heap.size + 2) _ [] rfl hO _ l rfl hR hL hS l rfl ?_; intro A1 c1 w1 ow1 b1; obtain ⟨k1, f1, z1⟩ := bcell b1; have q1 : w1.cell? ⟨w.heap.size + 1, 0, none⟩ = some (.slice none 0 0) := (k1 _ _ (by omega)).trans (by simp [go_sem]); have q2 : w1.cell? ⟨w.heap.size, 1, none⟩ = some (.int .i64 n) := (k1 _ _ (by omega)).trans (by simp [go_sem]))
  all_goals
    go_wp2
    exact bodyPost_ret (v := .agg #[.slice A1 l.length c1, .int .i64 n]) (by simp [results, Try.results75, go_sem, k1]) rfl ⟨_, _, rfl, by (apply own_lo; repeat' (first | (with_reducible assumption) | (with_reducible apply ownsRow_setCell_below) | (with_reducible apply World.ownsRow.alloc) | (with_reducible apply own_drewN) | (with_reducible apply World.ownsRow.drew) | (with_reducible apply own_bl2) | (simp; done) | (simp; omega) | omega)), by (repeat' (first | (with_reducible exact Below.refl _ _) | (with_reducible refine bl_alloc ?_ _) | (with_reducible refine bl_drewN ?_ _) | (with_reducible refine bl_drew ?_) | (with_reducible assumption) | (with_reducible refine bl_to ?_ (by assumption)) | (with_reducible refine Below.trans ?_ (by assumption)) | (with_reducible refine Below.trans ?_ (Below.mono (by assumption) ?_)) | (with_reducible refine bl_set ?_ ?_ _) | (simp; done) | (simp; omega) | omega))⟩

set_option maxHeartbeats 1600000 in
theorem silS_any (n : Int) (v : Value) (l : List Int) (m : Int) (w : World) (h1 : RdI w v l) (hl : l.length ≤ 1048576) :
    Calls Try.prog 74 #[.agg #[v, .int .i64 n], .int .i64 m] w (NewRow 3 1 (silF n l m).length (cI (silF n l m)) w) := by
  obtain ⟨A0, c0, rfl, hc, hm⟩ := h1.form
  unfold maxLen at hm
  by_cases h0 : l.length = 0
  · have hF : silF n l m = [] := List.eq_nil_of_length_eq_zero (by have := silF_len n l m; omega)
    rw [hF]
    have hz : ¬ (0 : Int) < (l.length : Int) := by omega
    clear hF h0
    go_enter Try.func74, Try.ntmps74
    go_wp2
    refine wp_loop_rounds 1 ?_
    rw [rounds_succ]
    go_wp2
    go_ret
    exact ⟨_, 0, rfl, own_lo (lo' := w.heap.size) (own_new0 (lo := w.heap.size + 1) (by omega) (by simp)) (by omega), by (repeat' (first | (with_reducible exact Below.refl _ _) | (with_reducible refine bl_alloc ?_ _) | (with_reducible refine bl_drewN ?_ _) | (with_reducible refine bl_drew ?_) | (with_reducible assumption) | (with_reducible refine bl_to ?_ (by assumption)) | (with_reducible refine Below.trans ?_ (by assumption)) | (with_reducible refine Below.trans ?_ (Below.mono (by assumption) ?_)) | (with_reducible refine bl_set ?_ ?_ _) | (simp; done) | (simp; omega) | omega))⟩
  have hlt0 : (0 : Int) < (l.length : Int) := by omega
  cases ho : wearB n l
  · have hF : silF n l m = [] := by simp [silF, ho]
    rw [hF]
    clear hF
    go_enter Try.func74, Try.ntmps74
    go_wp2
    refine wp_loop_rounds 1 ?_
    rw [rounds_succ]
    go_wp2_with (go_at_call 73; refine (wearS_ok _ _ l _ (h1.bl (by (repeat' (first | (with_reducible exact Below.refl _ _) | (with_reducible refine bl_alloc ?_ _) | (with_reducible refine bl_drewN ?_ _) | (with_reducible refine bl_drew ?_) | (with_reducible assumption) | (with_reducible refine bl_to ?_ (by assumption)) | (with_reducible refine Below.trans ?_ (by assumption)) | (with_reducible refine Below.trans ?_ (Below.mono (by assumption) ?_)) | (with_reducible refine bl_set ?_ ?_ _) | (simp; done) | (simp; omega) | omega)))) hl).mono ?_; rintro e w1 ⟨rfl, b1⟩; obtain ⟨k1, f1, z1⟩ := bcell b1)
    go_ret
    exact ⟨_, 0, rfl, own_lo (lo' := w.heap.size) (own_bl2 b1 (own_new0 (lo := w.heap.size + 1) (by omega) (by simp))) (by omega), by (repeat' (first | (with_reducible exact Below.refl _ _) | (with_reducible refine bl_alloc ?_ _) | (with_reducible refine bl_drewN ?_ _) | (with_reducible refine bl_drew ?_) | (with_reducible assumption) | (with_reducible refine bl_to ?_ (by assumption)) | (with_reducible refine Below.trans ?_ (by assumption)) | (with_reducible refine Below.trans ?_ (Below.mono (by assumption) ?_)) | (with_reducible refine bl_set ?_ ?_ _) | (simp; done) | (simp; omega) | omega))⟩
  cases hb : inB m 0 1000
  · have hF : silF n l m = [] := by simp [silF, hb]
    rw [hF]
    clear hF
    go_enter Try.func74, Try.ntmps74
    go_wp2
    refine wp_loop_rounds 1 ?_
    rw [rounds_succ]
    go_wp2_with (first | (go_at_call 73; refine (wearS_ok _ _ l _ (h1.bl (by (repeat' (first | (with_reducible exact Below.refl _ _) | (with_reducible refine bl_alloc ?_ _) | (with_reducible refine bl_drewN ?_ _) | (with_reducible refine bl_drew ?_) | (with_reducible assumption) | (with_reducible refine bl_to ?_ (by assumption)) | (with_reducible refine Below.trans ?_ (by assumption)) | (with_reducible refine Below.trans ?_ (Below.mono (by assumption) ?_)) | (with_reducible refine bl_set ?_ ?_ _) | (simp; done) | (simp; omega) | omega)))) hl).mono ?_; rintro e w1 ⟨rfl, b1⟩; obtain ⟨k1, f1, z1⟩ := bcell b1) | (go_at_call 67; refine (l01In_any _ _ _ _).mono ?_; rintro e w' ⟨rfl, rfl⟩))
    go_ret
    exact ⟨_, 0, rfl, own_lo (lo' := w.heap.size) (own_bl2 b1 (own_new0 (lo := w.heap.size + 1) (by omega) (by simp))) (by omega), by (repeat' (first | (with_reducible exact Below.refl _ _) | (with_reducible refine bl_alloc ?_ _) | (with_reducible refine bl_drewN ?_ _) | (with_reducible refine bl_drew ?_) | (with_reducible assumption) | (with_reducible refine bl_to ?_ (by assumption)) | (with_reducible refine Below.trans ?_ (by assumption)) | (with_reducible refine Below.trans ?_ (Below.mono (by assumption) ?_)) | (with_reducible refine bl_set ?_ ?_ _) | (simp; done) | (simp; omega) | omega))⟩
  · have hF : silF n l m = silN l m l.length := by simp [silF, ho, hb]
    rw [hF]
    clear hF
    obtain ⟨n1, _, _⟩ := wearB_iff ho
    go_enter Try.func74, Try.ntmps74
    go_wp2
    have own1 : ((w.alloc (Obj.cells #[.slice A0 l.length c0, .int .i64 n] 41)).alloc (Obj.cells #[] 3)).ownsRow (w.heap.size + 1) 3 1 (.slice (some ⟨w.heap.size + 1, 0, none⟩) 0 0) (silN l m 0).length (cI (silN l m 0)) := own_new0 (by omega) (by simp)
    go_loopw [5, 6] (fun v i wr => ∃ k : Nat, k ≤ l.length ∧ i = .int .i64 k ∧ wr.ownsRow (w.heap.size + 1) 3 1 v (silN l m k).length (cI (silN l m k)) ∧ Below w.heap.size w wr ∧ w.heap.size + 1 ≤ wr.heap.size ∧ wr.cell? ⟨w.heap.size, 0, none⟩ = some (.slice A0 l.length c0) ∧ wr.cell? ⟨w.heap.size, 1, none⟩ = some (.int .i64 n)) (fun _ i _ => l.length - (intOf i).toNat)
    case atStart => exact ⟨0, Nat.zero_le _, rfl, own1, by (repeat' (first | (with_reducible exact Below.refl _ _) | (with_reducible refine bl_alloc ?_ _) | (with_reducible refine bl_drewN ?_ _) | (with_reducible refine bl_drew ?_) | (with_reducible assumption) | (with_reducible refine bl_to ?_ (by assumption)) | (with_reducible refine Below.trans ?_ (by assumption)) | (with_reducible refine Below.trans ?_ (Below.mono (by assumption) ?_)) | (with_reducible refine bl_set ?_ ?_ _) | (simp; done) | (simp; omega) | omega)), by simp, by simp [go_sem], by simp [go_sem]⟩
    case round =>
      clear own1
      obtain ⟨k, hk, rfl, ow, bel, szr, x0, x1⟩ := hrel
      have hll := silN_len l m k
      by_cases hlt : k < l.length
      · have hlt' : (k : Int) < (l.length : Int) := by omega
        obtain ⟨g, o, rfl, hgb, q1⟩ := h1.look (by omega)
        have e0 := (bel.cell (p := ⟨g, o + k, none⟩) hgb).trans (q1 k _ (cI_get hlt))
        clear q1
        by_cases hs : gi l k < m
        · have hh := Lib.hid (show silN l m (k + 1) = silN l m k ++ [(k : Int)] by simp [silN, hs])
          go_wp2_with (first | (go_at_call 73; refine (wearS_ok _ _ l _ (h1.bl bel) hl).mono ?_; rintro e w2 ⟨rfl, b2⟩; have x0' := (b2.cell (p := ⟨w.heap.size, 0, none⟩) (by simp; omega)).trans x0; have x1' := (b2.cell (p := ⟨w.heap.size, 1, none⟩) (by simp; omega)).trans x1; have e1 := (b2.cell (p := ⟨g, o + k, none⟩) (Nat.lt_of_lt_of_le hgb bel.size)).trans e0; have ow2 := own_bl ow b2; have bel2 := bl_to bel b2; have sz2 := Nat.le_trans szr b2.size) | (go_at_call 67; refine (l01In_any _ _ _ _).mono ?_; rintro e w' ⟨rfl, rfl⟩) | (at_builtin; refine wpList_app_int _ rfl _ _ rfl (w.heap.size + 1) _ _ rfl (ow2.alloc _) _ (k : Int) rfl ?_ (by omega) (by simp; omega) ?_; rotate_left; intro v' w' ow' bel'; have bel3 := Below.trans (bl_alloc bel2 _) (bel'.mono (by omega)); have sz3 := bel'.size; have z0 := (bel'.cell (p := ⟨w.heap.size, 0, none⟩) (by simp)).trans ((World.cell?_alloc_lt w2 _ ⟨w.heap.size, 0, none⟩ (by simp; omega)).trans x0'); have z1 := (bel'.cell (p := ⟨w.heap.size, 1, none⟩) (by simp)).trans ((World.cell?_alloc_lt w2 _ ⟨w.heap.size, 1, none⟩ (by simp; omega)).trans x1')))
          · simp only [World.size_alloc] at sz3
            go_roundw
            case rel => exact ⟨k + 1, by omega, by go_num, by rw [hh.out]; exact ow', bel3, by omega, z0, z1⟩
            case measure => simp [intOf]; omega
          all_goals (simp; done)
        · have hh := Lib.hid (show silN l m (k + 1) = silN l m k by simp [silN, hs])
          go_wp2_with (first | (go_at_call 73; refine (wearS_ok _ _ l _ (h1.bl bel) hl).mono ?_; rintro e w2 ⟨rfl, b2⟩; have x0' := (b2.cell (p := ⟨w.heap.size, 0, none⟩) (by simp; omega)).trans x0; have x1' := (b2.cell (p := ⟨w.heap.size, 1, none⟩) (by simp; omega)).trans x1; have e1 := (b2.cell (p := ⟨g, o + k, none⟩) (Nat.lt_of_lt_of_le hgb bel.size)).trans e0; have ow2 := own_bl ow b2; have bel2 := bl_to bel b2; have sz2 := Nat.le_trans szr b2.size) | (go_at_call 67; refine (l01In_any _ _ _ _).mono ?_; rintro e w' ⟨rfl, rfl⟩))
          go_roundw
          case rel => exact ⟨k + 1, by omega, by go_num, by rw [hh.out]; exact ow2, bel2, sz2, x0', x1'⟩
          case measure => simp [intOf]; omega
      · obtain rfl : k = l.length := by omega
        go_wp2
        go_ret
        obtain ⟨A, c, rfl⟩ := own_form ow
        exact ⟨A, c, rfl, own_lo ow (by omega), bel⟩
end Go.Proofs.Ytoijjjaodfincaa
