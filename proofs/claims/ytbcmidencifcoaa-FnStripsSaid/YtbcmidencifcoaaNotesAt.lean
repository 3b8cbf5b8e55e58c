/- NotesAt of the program and of the reference; lengths up to 2^20. -/
import Derived.Test.YtbcmidencifcoaaTune
namespace Go.Proofs.Ytbcmidencifcoaa
open Go.RowKit

set_option maxHeartbeats 1600000 in
theorem natI_any (v : Value) (l : List (Int × Int)) (t : Int) (w : World) (h1 : RdN w v l) (hl : l.length ≤ 1048576) :
    Calls Try.prog 59 #[v, .int .i64 t] w (NewRow 3 1 (natF l t).length (cI (natF l t)) w) := by
  obtain ⟨A0, c0, rfl, _, hm⟩ := h1.form
  unfold maxLen at hm
  cases ho : tuneB l
  · have hF : natF l t = [] := by simp [natF, ho]
    rw [hF]
    clear hF
    go_enter Try.func59, Try.ntmps59
    go_wp2_with (go_at_call 54; refine (tuneI_ok _ l _ (h1.bl (by (repeat' (first | (with_reducible exact Below.refl _ _) | (with_reducible refine bl_alloc ?_ _) | (with_reducible refine bl_drewN ?_ _) | (with_reducible refine bl_drew ?_) | (with_reducible assumption) | (with_reducible refine bl_to ?_ (by assumption)) | (with_reducible refine Below.trans ?_ (by assumption)) | (with_reducible refine Below.trans ?_ (Below.mono (by assumption) ?_)) | (with_reducible refine bl_set ?_ ?_ _) | (simp; done) | (simp; omega) | omega)))) hl).mono ?_; rintro e w1 ⟨rfl, b1⟩; obtain ⟨k1, f1, z1⟩ := bcell b1)
    go_ret
    exact ⟨none, 0, rfl, World.ownsRow_nil _ _ _ _, by (repeat' (first | (with_reducible exact Below.refl _ _) | (with_reducible refine bl_alloc ?_ _) | (with_reducible refine bl_drewN ?_ _) | (with_reducible refine bl_drew ?_) | (with_reducible assumption) | (with_reducible refine bl_to ?_ (by assumption)) | (with_reducible refine Below.trans ?_ (by assumption)) | (with_reducible refine Below.trans ?_ (Below.mono (by assumption) ?_)) | (with_reducible refine bl_set ?_ ?_ _) | (simp; done) | (simp; omega) | omega))⟩
  · have hF : natF l t = atN l t l.length := by simp [natF, ho]
    rw [hF]
    clear hF
    go_enter Try.func59, Try.ntmps59
    go_wp2_with (go_at_call 54; refine (tuneI_ok _ l _ (h1.bl (by (repeat' (first | (with_reducible exact Below.refl _ _) | (with_reducible refine bl_alloc ?_ _) | (with_reducible refine bl_drewN ?_ _) | (with_reducible refine bl_drew ?_) | (with_reducible assumption) | (with_reducible refine bl_to ?_ (by assumption)) | (with_reducible refine Below.trans ?_ (by assumption)) | (with_reducible refine Below.trans ?_ (Below.mono (by assumption) ?_)) | (with_reducible refine bl_set ?_ ?_ _) | (simp; done) | (simp; omega) | omega)))) hl).mono ?_; rintro e w1 ⟨rfl, b1⟩; obtain ⟨k1, f1, z1⟩ := bcell b1)
    have bel1 : Below w.heap.size w (w1.alloc (Obj.cells #[] 3)) := by (repeat' (first | (with_reducible exact Below.refl _ _) | (with_reducible refine bl_alloc ?_ _) | (with_reducible refine bl_drewN ?_ _) | (with_reducible refine bl_drew ?_) | (with_reducible assumption) | (with_reducible refine bl_to ?_ (by assumption)) | (with_reducible refine Below.trans ?_ (by assumption)) | (with_reducible refine Below.trans ?_ (Below.mono (by assumption) ?_)) | (with_reducible refine bl_set ?_ ?_ _) | (simp; done) | (simp; omega) | omega))
    have own1 : (w1.alloc (Obj.cells #[] 3)).ownsRow w1.heap.size 3 1 (.slice (some ⟨w1.heap.size, 0, none⟩) 0 0) (atN l t 0).length (cI (atN l t 0)) := own_new0 (Nat.le_refl _) rfl
    have sz1 := b1.size
    clear k1 f1 z1
    go_loopw [5, 14] (fun v i wr => ∃ k : Nat, k ≤ l.length ∧ i = .int .i64 k ∧ wr.ownsRow w1.heap.size 3 1 v (atN l t k).length (cI (atN l t k)) ∧ Below w.heap.size w wr ∧ w1.heap.size ≤ wr.heap.size) (fun _ i _ => l.length - (intOf i).toNat)
    case atStart => exact ⟨0, Nat.zero_le _, rfl, own1, bel1, by simp⟩
    case round =>
      clear own1 bel1
      obtain ⟨k, hk, rfl, ow, bel, szr⟩ := hrel
      have hll := atN_len l t k
      by_cases hlt : k < l.length
      · obtain ⟨b, o, rfl, hb, e0, e1⟩ := RdN.at_ (h1.bl bel) hlt
        have hlt' : (k : Int) < (l.length : Int) := by omega
        clear h1
        by_cases hs : (gN l k).1 = t
        · have hh := Lib.hid (atN_yes hs)
          have hsb : ((gN l k).1 == t) = true := by simpa using hs
          clear hs
          go_wp2_with (at_builtin; refine wpList_app_int _ rfl _ _ rfl w1.heap.size _ _ rfl ((ow.alloc _).alloc _) _ (gN l k).2 rfl ?_ (by omega) (by (first | omega | (simp; done) | (simp; omega))) ?_; rotate_left; intro v' w' ow' bel')
          · have bel2 : Below w.heap.size w w' := Below.trans (by (repeat' (first | (with_reducible exact Below.refl _ _) | (with_reducible refine bl_alloc ?_ _) | (with_reducible refine bl_drewN ?_ _) | (with_reducible refine bl_drew ?_) | (with_reducible assumption) | (with_reducible refine bl_to ?_ (by assumption)) | (with_reducible refine Below.trans ?_ (by assumption)) | (with_reducible refine Below.trans ?_ (Below.mono (by assumption) ?_)) | (with_reducible refine bl_set ?_ ?_ _) | (simp; done) | (simp; omega) | omega))) (bel'.mono (by omega))
            have sz2 := bel'.size
            simp only [World.size_alloc] at sz2
            go_roundw
            case rel => exact ⟨k + 1, by omega, by go_num, by rw [hh.out]; exact ow', bel2, by omega⟩
            case measure => simp [intOf]; omega
          all_goals (simp; done)
        · have hh := Lib.hid (atN_not hs)
          have hsb : ((gN l k).1 == t) = false := by simpa using hs
          go_wp2
          go_roundw
          case rel => exact ⟨k + 1, by omega, by go_num, by rw [hh.out]; exact ow.alloc _, by (repeat' (first | (with_reducible exact Below.refl _ _) | (with_reducible refine bl_alloc ?_ _) | (with_reducible refine bl_drewN ?_ _) | (with_reducible refine bl_drew ?_) | (with_reducible assumption) | (with_reducible refine bl_to ?_ (by assumption)) | (with_reducible refine Below.trans ?_ (by assumption)) | (with_reducible refine Below.trans ?_ (Below.mono (by assumption) ?_)) | (with_reducible refine bl_set ?_ ?_ _) | (simp; done) | (simp; omega) | omega)), by simp; omega⟩
          case measure => simp [intOf]; omega
      · obtain rfl : k = l.length := by omega
        go_wp2
        go_ret
        obtain ⟨A, c, rfl⟩ := own_form ow
        exact ⟨A, c, rfl, own_lo ow (by omega), bel⟩

set_option maxHeartbeats 1600000 in
theorem natS_any (v : Value) (l : List (Int × Int)) (t : Int) (w : World) (h1 : RdN w v l) (hl : l.length ≤ 1048576) :
    Calls Try.prog 36 #[v, .int .i64 t] w (NewRow 3 1 (natF l t).length (cI (natF l t)) w) := by
  obtain ⟨A0, c0, rfl, _, hm⟩ := h1.form
  unfold maxLen at hm
  by_cases h0 : l.length = 0
  · have hF : natF l t = [] := List.eq_nil_of_length_eq_zero (by have := natF_len l t; omega)
    rw [hF]
    have hz : ¬ (0 : Int) < (l.length : Int) := by omega
    clear hF h0
    go_enter Try.func36, Try.ntmps36
    go_wp2
    refine wp_loop_rounds 1 ?_
    rw [rounds_succ]
    go_wp2
    go_ret
    exact ⟨_, 0, rfl, own_new0 (Nat.le_refl _) rfl, by (repeat' (first | (with_reducible exact Below.refl _ _) | (with_reducible refine bl_alloc ?_ _) | (with_reducible refine bl_drewN ?_ _) | (with_reducible refine bl_drew ?_) | (with_reducible assumption) | (with_reducible refine bl_to ?_ (by assumption)) | (with_reducible refine Below.trans ?_ (by assumption)) | (with_reducible refine Below.trans ?_ (Below.mono (by assumption) ?_)) | (with_reducible refine bl_set ?_ ?_ _) | (simp; done) | (simp; omega) | omega))⟩
  have hlt0 : (0 : Int) < (l.length : Int) := by omega
  cases ho : tuneB l
  · have hF : natF l t = [] := by simp [natF, ho]
    rw [hF]
    clear hF
    go_enter Try.func36, Try.ntmps36
    go_wp2
    refine wp_loop_rounds 1 ?_
    rw [rounds_succ]
    go_wp2_with (go_at_call 52; refine (tuneS_ok _ l _ (h1.bl (by (repeat' (first | (with_reducible exact Below.refl _ _) | (with_reducible refine bl_alloc ?_ _) | (with_reducible refine bl_drewN ?_ _) | (with_reducible refine bl_drew ?_) | (with_reducible assumption) | (with_reducible refine bl_to ?_ (by assumption)) | (with_reducible refine Below.trans ?_ (by assumption)) | (with_reducible refine Below.trans ?_ (Below.mono (by assumption) ?_)) | (with_reducible refine bl_set ?_ ?_ _) | (simp; done) | (simp; omega) | omega)))) hl).mono ?_; rintro e w1 ⟨rfl, b1⟩; obtain ⟨k1, f1, z1⟩ := bcell b1)
    go_ret
    exact ⟨_, 0, rfl, own_bl2 b1 (own_new0 (Nat.le_refl _) rfl), by (repeat' (first | (with_reducible exact Below.refl _ _) | (with_reducible refine bl_alloc ?_ _) | (with_reducible refine bl_drewN ?_ _) | (with_reducible refine bl_drew ?_) | (with_reducible assumption) | (with_reducible refine bl_to ?_ (by assumption)) | (with_reducible refine Below.trans ?_ (by assumption)) | (with_reducible refine Below.trans ?_ (Below.mono (by assumption) ?_)) | (with_reducible refine bl_set ?_ ?_ _) | (simp; done) | (simp; omega) | omega))⟩
  · have hF : natF l t = atN l t l.length := by simp [natF, ho]
    rw [hF]
    clear hF
    go_enter Try.func36, Try.ntmps36
    go_wp2
    have own1 : (w.alloc (Obj.cells #[] 3)).ownsRow w.heap.size 3 1 (.slice (some ⟨w.heap.size, 0, none⟩) 0 0) (atN l t 0).length (cI (atN l t 0)) := own_new0 (Nat.le_refl _) rfl
    go_loopw [5, 6] (fun v i wr => ∃ k : Nat, k ≤ l.length ∧ i = .int .i64 k ∧ wr.ownsRow w.heap.size 3 1 v (atN l t k).length (cI (atN l t k)) ∧ Below w.heap.size w wr ∧ w.heap.size ≤ wr.heap.size) (fun _ i _ => l.length - (intOf i).toNat)
    case atStart => exact ⟨0, Nat.zero_le _, rfl, own1, by (repeat' (first | (with_reducible exact Below.refl _ _) | (with_reducible refine bl_alloc ?_ _) | (with_reducible refine bl_drewN ?_ _) | (with_reducible refine bl_drew ?_) | (with_reducible assumption) | (with_reducible refine bl_to ?_ (by assumption)) | (with_reducible refine Below.trans ?_ (by assumption)) | (with_reducible refine Below.trans ?_ (Below.mono (by assumption) ?_)) | (with_reducible refine bl_set ?_ ?_ _) | (simp; done) | (simp; omega) | omega)), by simp⟩
    case round =>
      clear own1
      obtain ⟨k, hk, rfl, ow, bel, szr⟩ := hrel
      have hll := atN_len l t k
      by_cases hlt : k < l.length
      · have hlt' : (k : Int) < (l.length : Int) := by omega
        obtain ⟨b, o, rfl, hb, e0, e1⟩ := RdN.at_ (h1.bl bel) hlt
        by_cases hs : (gN l k).1 = t
        · have hh := Lib.hid (atN_yes hs)
          have hsb : ((gN l k).1 == t) = true := by simpa using hs
          clear hs
          go_wp2_with (first | (go_at_call 52; refine (tuneS_ok _ l _ (h1.bl bel) hl).mono ?_; rintro e w2 ⟨rfl, b2⟩; have d0 := (b2.cell (p := ⟨b, o + k * 2, none⟩) hb).trans e0; have d1 := (b2.cell (p := ⟨b, o + k * 2 + 1, none⟩) hb).trans e1; have ow2 := own_bl ow b2; have bel2 := bl_to bel b2; have sz2 := Nat.le_trans szr b2.size) | (at_builtin; refine wpList_app_int _ rfl _ _ rfl w.heap.size _ _ rfl (ow2.alloc _) _ (gN l k).2 rfl ?_ (by omega) (by simp; omega) ?_; rotate_left; intro v' w' ow' bel'; have bel3 := Below.trans (bl_alloc bel2 _) bel'; have sz3 := bel'.size))
          · simp only [World.size_alloc] at sz3
            go_roundw
            case rel => exact ⟨k + 1, by omega, by go_num, by rw [hh.out]; exact ow', bel3, by omega⟩
            case measure => simp [intOf]; omega
          all_goals (simp; done)
        · have hh := Lib.hid (atN_not hs)
          have hsb : ((gN l k).1 == t) = false := by simpa using hs
          clear hs
          go_wp2_with (go_at_call 52; refine (tuneS_ok _ l _ (h1.bl bel) hl).mono ?_; rintro e w2 ⟨rfl, b2⟩; have d0 := (b2.cell (p := ⟨b, o + k * 2, none⟩) hb).trans e0; have d1 := (b2.cell (p := ⟨b, o + k * 2 + 1, none⟩) hb).trans e1; have ow2 := own_bl ow b2; have bel2 := bl_to bel b2; have sz2 := Nat.le_trans szr b2.size)
          go_roundw
          case rel => exact ⟨k + 1, by omega, by go_num, by rw [hh.out]; exact ow2, bel2, sz2⟩
          case measure => simp [intOf]; omega
      · have hlt' : ¬ (k : Int) < (l.length : Int) := by omega
        obtain rfl : k = l.length := by omega
        go_wp2
        go_ret
        obtain ⟨A, c, rfl⟩ := own_form ow
        exact ⟨A, c, rfl, ow, bel⟩
end Go.Proofs.Ytbcmidencifcoaa
