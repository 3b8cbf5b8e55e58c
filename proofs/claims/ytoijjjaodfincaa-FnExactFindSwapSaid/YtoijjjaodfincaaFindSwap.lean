/- FindSwap of the program and of the reference; lengths up to 2^20. -/
import Derived.Test.YtoijjjaodfincaaDigits
import Derived.RegionTactic
import Derived.BigRegion
import Derived.Deep.RegionLaw
namespace Go.Proofs.Ytoijjjaodfincaa
open Go.RowKit

/-- digits k and k + 1 swapped -/
def swpN (l : List Int) (k : Nat) : List Int := (l.set k (gi l (k + 1))).set (k + 1) (gi l k)
theorem swpN_len (l : List Int) (k : Nat) : (swpN l k).length = l.length := by simp [swpN]
def fswN (l : List Int) : Nat → List Int
  | 0 => []
  | k + 1 => if chkB (swpN l k) then fswN l k ++ [(k : Int)] else fswN l k
theorem fswN_len (l : List Int) (k : Nat) : (fswN l k).length ≤ k := by
  induction k with
  | zero => simp [fswN]
  | succ k ih =>
    unfold fswN
    split
    · rw [List.length_append]; simp; omega
    · omega
theorem fswN_yes {l : List Int} {k : Nat} (h : chkB (swpN l k) = true) : fswN l (k + 1) = fswN l k ++ [(k : Int)] := by rw [fswN, if_pos h]
theorem fswN_no {l : List Int} {k : Nat} (h : chkB (swpN l k) = false) : fswN l (k + 1) = fswN l k := by rw [fswN, if_neg (by simp [h])]
def fswF (l : List Int) : List Int := if okD l 2 21 then fswN l (l.length - 1) else []
theorem fswF_len (l : List Int) : (fswF l).length ≤ l.length := by
  unfold fswF
  split
  · have := fswN_len l (l.length - 1); omega
  · simp

theorem own_headS {w : World} {lo : Nat} {e : TypeId} {s n : Nat} {A : Option Addr} {c : Nat} {xs : List Value} (h : w.ownsRow lo e s (.slice A n c) n xs) (hn : 0 < n) : ∃ g, A = some ⟨g, 0, none⟩ ∧ lo ≤ g ∧ g < w.heap.size := by
  obtain ⟨b, o, rfl, hb, _⟩ := (Rd.of_own h).look hn
  have hlt := h.lt b rfl
  rcases h.2 with ⟨h, _⟩ | ⟨g, _, _, h, _⟩
  · simp at h
  · simp at h
    obtain ⟨⟨rfl, rfl⟩, _⟩ := h
    exact ⟨b, rfl, hlt⟩

theorem cell_newI {w : World} {g : Nat} {x : Int} {T : TypeId} (h : w.heap.size = g) : (w.alloc (Obj.cells #[.int .i64 x] T)).cell? ⟨g, 0, none⟩ = some (.int .i64 x) := by
  subst h
  simp [go_sem]
theorem own_two {w : World} {lo : Nat} {e : TypeId} {s n : Nat} {v : Value} {xs : List Value} (h : w.ownsRow lo e s v n xs) {g i j : Nat} {x y : Value} (hne : v.ownBlock ≠ some g) : ((w.setCell ⟨g, i, none⟩ x).setCell ⟨g, j, none⟩ y).ownsRow lo e s v n xs := by
  have h1 : (w.setCell ⟨g, i, none⟩ x).ownsRow lo e s v n xs := h.kept (row := some g) ⟨rfl, rfl, rfl, by simp, fun k _ hk => Below.heap_setCell _ _ _ _ (fun e => hk (by simpa using e))⟩ (.inr hne)
  exact h1.kept (row := some g) ⟨rfl, rfl, rfl, by simp, fun k _ hk => Below.heap_setCell _ _ _ _ (fun e => hk (by simpa using e))⟩ (.inr hne)

set_option maxHeartbeats 3200000 in
set_option maxRecDepth 100000 in
theorem fswI_any (v : Value) (l : List Int) (w : World) (h1 : RdI w v l) (hl : l.length ≤ 1048576) :
    Calls Try.prog 42 #[v] w (NewRow 3 1 (fswF l).length (cI (fswF l)) w) := by
  obtain ⟨A0, c0, rfl, hc, hm⟩ := h1.form
  unfold maxLen at hm
  cases ho : okD l 2 21
  · have hF : fswF l = [] := by simp [fswF, ho]
    rw [hF]
    clear hF
    go_enter Try.func42, Try.ntmps42
    go_wp2_with (go_at_call 79; refine (areDigits_any _ l _ _ _ h1 hl).mono ?_; rintro e w' ⟨rfl, rfl⟩)
    go_ret
    exact ⟨none, 0, rfl, World.ownsRow_nil _ _ _ _, by (repeat' (first | (with_reducible exact Below.refl _ _) | (with_reducible refine bl_alloc ?_ _) | (with_reducible refine bl_drewN ?_ _) | (with_reducible refine bl_drew ?_) | (with_reducible assumption) | (with_reducible refine bl_to ?_ (by assumption)) | (with_reducible refine Below.trans ?_ (by assumption)) | (with_reducible refine Below.trans ?_ (Below.mono (by assumption) ?_)) | (with_reducible refine bl_set ?_ ?_ _) | (simp; done) | (simp; omega) | omega))⟩
  · have hF : fswF l = fswN l (l.length - 1) := by simp [fswF, ho]
    rw [hF]
    clear hF
    obtain ⟨lo1, lo2⟩ := okD_len ho
    have own1 : (w.alloc (Obj.cells #[] 3)).ownsRow w.heap.size 3 1 (.slice (some ⟨w.heap.size, 0, none⟩) 0 0) (fswN l 0).length (cI (fswN l 0)) := own_new0 (Nat.le_refl _) rfl
    go_enter Try.func42, Try.ntmps42
    go_wp2_with (go_at_call 79; refine (areDigits_any _ l _ _ _ h1 hl).mono ?_; rintro e w' ⟨rfl, rfl⟩)
    go_loopw [3, 4] (fun v i wr => ∃ k : Nat, k + 1 ≤ l.length ∧ i = .int .i64 k ∧ wr.ownsRow w.heap.size 3 1 v (fswN l k).length (cI (fswN l k)) ∧ Below w.heap.size w wr ∧ w.heap.size ≤ wr.heap.size) (fun _ i _ => l.length - (intOf i).toNat)
    case atStart => exact ⟨0, by omega, rfl, own1, by (repeat' (first | (with_reducible exact Below.refl _ _) | (with_reducible refine bl_alloc ?_ _) | (with_reducible refine bl_drewN ?_ _) | (with_reducible refine bl_drew ?_) | (with_reducible assumption) | (with_reducible refine bl_to ?_ (by assumption)) | (with_reducible refine Below.trans ?_ (by assumption)) | (with_reducible refine Below.trans ?_ (Below.mono (by assumption) ?_)) | (with_reducible refine bl_set ?_ ?_ _) | (simp; done) | (simp; omega) | omega)), by simp⟩
    case round =>
      clear own1
      obtain ⟨k, hk, rfl, ow, bel, szr⟩ := hrel
      have hll := fswN_len l k
      have kn : (k : Int) + 1 = ((k + 1 : Nat) : Int) := by omega
      have KN := Lib.hid kn
      clear kn
      have kt : ((k : Int) + 1).toNat = k + 1 := by omega
      by_cases hlt : k + 1 < l.length
      · have hlt' : (k : Int) + 1 < (l.length : Int) := by omega
        go_wp2_with (go_at_call 80; refine (copyInts_any _ l _ (h1.bl bel) hl).mono ?_; rintro e w1 ⟨A1, c1, rfl, ow1, b1⟩; obtain ⟨k1, f1, z1⟩ := bcell b1)
        obtain ⟨g, rfl, g1, g2⟩ := own_headS ow1 (by omega)
        have e0 : w1.cell? ⟨g, k, none⟩ = some (.int .i64 (gi l k)) := (ow1.cellAt k (by omega)).trans (cI_get (by omega))
        have e1 : w1.cell? ⟨g, k + 1, none⟩ = some (.int .i64 (gi l (k + 1))) := (ow1.cellAt (k + 1) (by omega)).trans (cI_get (by omega))
        have f0 := ow1.frozenAt k
        have f1' := ow1.frozenAt (k + 1)
        have z1' : (0 : Int) ≤ (k : Int) := by omega
        have z2' : (k : Int) < (l.length : Int) := by omega
        have z3' : (0 : Int) ≤ (k : Int) + 1 := by omega
        have ww : IntKind.i64.wrap ((k : Int) + 1) = (k : Int) + 1 := IntWalk.i64_in _ (by omega)
        clear k1 f1 z1
        have ow2 := ((ow1.stored k (.int .i64 (gi l (k + 1)))).1.stored (k + 1) (.int .i64 (gi l k))).1.drew
        rw [cI_set, cI_set] at ow2
        have hrd : RdI ((w1.setCell ⟨g, k, none⟩ (.int .i64 (gi l (k + 1)))).setCell ⟨g, k + 1, none⟩ (.int .i64 (gi l k))).drew (.slice (some ⟨g, 0, none⟩) l.length c1) (swpN l k) := by
          rw [RdI, swpN_len]; exact Rd.of_own ow2
        have bel2 : Below w.heap.size w ((w1.setCell ⟨g, k, none⟩ (.int .i64 (gi l (k + 1)))).setCell ⟨g, k + 1, none⟩ (.int .i64 (gi l k))).drew := bl_drew (bl_set (bl_set (bl_to bel b1) (by simp; omega) _) (by simp; omega) _)
        have owl := (own_two (own_bl ow b1) (g := g) (i := k) (j := k + 1) (x := .int .i64 (gi l (k + 1))) (y := .int .i64 (gi l k)) (fun e => by have := (ow.lt _ e).2; omega)).drew
        have sz2 : w.heap.size ≤ ((w1.setCell ⟨g, k, none⟩ (.int .i64 (gi l (k + 1)))).setCell ⟨g, k + 1, none⟩ (.int .i64 (gi l k))).drew.heap.size := bel2.size
        have hsl : (swpN l k).length ≤ 1048576 := by rw [swpN_len]; exact hl
        cases hs : chkB (swpN l k)
        · have hh := Lib.hid (fswN_no hs)
          go_region
          clear ww
          go_wp2_with (go_at_call 81; refine (isI_any _ (swpN l k) _ hrd hsl).mono ?_; rintro e w' ⟨rfl, rfl⟩)
          go_roundw
          case rel => exact ⟨k + 1, by omega, by go_num, by rw [hh.out]; exact owl, bel2, sz2⟩
          case measure => simp [intOf]; omega
        · have hh := Lib.hid (fswN_yes hs)
          go_region
          clear ww
          go_wp2_with (first | (go_at_call 81; refine (isI_any _ (swpN l k) _ hrd hsl).mono ?_; rintro e w' ⟨rfl, rfl⟩) | (at_builtin; refine wpList_app_int _ rfl _ _ rfl w.heap.size _ _ rfl (owl.alloc _) _ (k : Int) rfl ?_ (by omega) (by (first | omega | (simp; done) | (simp; omega))) ?_; rotate_left; intro v2 w3 ow3 bel3))
          · have bel4 : Below w.heap.size w w3 := Below.trans (bl_alloc bel2 _) (bel3.mono (by omega))
            go_roundw
            case rel => exact ⟨k + 1, by omega, by go_num, by rw [hh.out]; exact ow3, bel4, bel4.size⟩
            case measure => simp [intOf]; omega
          all_goals (first | (simp; done) | exact cell_newI (by simp))
      · obtain e : k = l.length - 1 := by omega
        have hlt' : ¬ (k : Int) + 1 < (l.length : Int) := by omega
        go_wp2
        go_ret
        obtain ⟨A, c, rfl⟩ := own_form ow
        subst e
        exact ⟨A, c, rfl, ow, bel⟩
set_option maxHeartbeats 3200000 in
set_option maxRecDepth 100000 in
theorem fswS_any (v : Value) (l : List Int) (w : World) (h1 : RdI w v l) (hl : l.length ≤ 1048576) :
    Calls Try.prog 40 #[v] w (NewRow 3 1 (fswF l).length (cI (fswF l)) w) := by
  obtain ⟨A0, c0, rfl, hc, hm⟩ := h1.form
  unfold maxLen at hm
  by_cases h2 : l.length < 2
  · have hF : fswF l = [] := by
      rw [fswF, if_neg]
      intro h
      have := (okD_len h).1
      omega
    rw [hF]
    have hlt' : ¬ (0 : Int) + 1 < (l.length : Int) := by omega
    have hlt2 : ¬ (1 : Int) < (l.length : Int) := by omega
    clear hF
    go_enter Try.func40, Try.ntmps40
    go_wp2
    refine wp_loop_rounds 1 ?_
    rw [rounds_succ]
    go_wp2
    go_ret
    exact ⟨_, 0, rfl, own_new0 (Nat.le_refl _) rfl, by (repeat' (first | (with_reducible exact Below.refl _ _) | (with_reducible refine bl_alloc ?_ _) | (with_reducible refine bl_drewN ?_ _) | (with_reducible refine bl_drew ?_) | (with_reducible assumption) | (with_reducible refine bl_to ?_ (by assumption)) | (with_reducible refine Below.trans ?_ (by assumption)) | (with_reducible refine Below.trans ?_ (Below.mono (by assumption) ?_)) | (with_reducible refine bl_set ?_ ?_ _) | (simp; done) | (simp; omega) | omega))⟩
  cases ho : okD l 2 21
  · have hF : fswF l = [] := by simp [fswF, ho]
    rw [hF]
    have hlt2 : (1 : Int) < (l.length : Int) := by omega
    clear hF
    go_enter Try.func40, Try.ntmps40
    go_wp2
    refine wp_loop_rounds 1 ?_
    rw [rounds_succ]
    go_wp2_with (go_at_call 77; refine (l33Ok_any _ l _ _ _ (h1.bl (by (repeat' (first | (with_reducible exact Below.refl _ _) | (with_reducible refine bl_alloc ?_ _) | (with_reducible refine bl_drewN ?_ _) | (with_reducible refine bl_drew ?_) | (with_reducible assumption) | (with_reducible refine bl_to ?_ (by assumption)) | (with_reducible refine Below.trans ?_ (by assumption)) | (with_reducible refine Below.trans ?_ (Below.mono (by assumption) ?_)) | (with_reducible refine bl_set ?_ ?_ _) | (simp; done) | (simp; omega) | omega)))) hl).mono ?_; rintro e w' ⟨rfl, rfl⟩)
    go_ret
    exact ⟨_, 0, rfl, own_new0 (Nat.le_refl _) rfl, by (repeat' (first | (with_reducible exact Below.refl _ _) | (with_reducible refine bl_alloc ?_ _) | (with_reducible refine bl_drewN ?_ _) | (with_reducible refine bl_drew ?_) | (with_reducible assumption) | (with_reducible refine bl_to ?_ (by assumption)) | (with_reducible refine Below.trans ?_ (by assumption)) | (with_reducible refine Below.trans ?_ (Below.mono (by assumption) ?_)) | (with_reducible refine bl_set ?_ ?_ _) | (simp; done) | (simp; omega) | omega))⟩
  have hF : fswF l = fswN l (l.length - 1) := by simp [fswF, ho]
  rw [hF]
  clear hF
  obtain ⟨lo1, lo2⟩ := okD_len ho
  have own1 : (w.alloc (Obj.cells #[] 3)).ownsRow w.heap.size 3 1 (.slice (some ⟨w.heap.size, 0, none⟩) 0 0) (fswN l 0).length (cI (fswN l 0)) := own_new0 (Nat.le_refl _) rfl
  go_enter Try.func40, Try.ntmps40
  go_wp2
  go_loopw [3, 4] (fun v i wr => ∃ k : Nat, k + 1 ≤ l.length ∧ i = .int .i64 k ∧ wr.ownsRow w.heap.size 3 1 v (fswN l k).length (cI (fswN l k)) ∧ Below w.heap.size w wr ∧ w.heap.size ≤ wr.heap.size) (fun _ i _ => l.length - (intOf i).toNat)
  case atStart => exact ⟨0, by omega, rfl, own1, by (repeat' (first | (with_reducible exact Below.refl _ _) | (with_reducible refine bl_alloc ?_ _) | (with_reducible refine bl_drewN ?_ _) | (with_reducible refine bl_drew ?_) | (with_reducible assumption) | (with_reducible refine bl_to ?_ (by assumption)) | (with_reducible refine Below.trans ?_ (by assumption)) | (with_reducible refine Below.trans ?_ (Below.mono (by assumption) ?_)) | (with_reducible refine bl_set ?_ ?_ _) | (simp; done) | (simp; omega) | omega)), by simp⟩
  case round =>
    clear own1
    obtain ⟨k, hk, rfl, ow, bel, szr⟩ := hrel
    have hll := fswN_len l k
    have kt : ((k : Int) + 1).toNat = k + 1 := by omega
    by_cases hlt : k + 1 < l.length
    · have hlt' : (k : Int) + 1 < (l.length : Int) := by omega
      have z1' : (0 : Int) ≤ (k : Int) := by omega
      have z2' : (k : Int) < (l.length : Int) := by omega
      have z3' : (0 : Int) ≤ (k : Int) + 1 := by omega
      obtain ⟨g0, o0, rfl, hg0, rd⟩ := h1.look (by omega)
      have d0 := (bel.cell (p := ⟨g0, o0 + k, none⟩) hg0).trans (rd k _ (cI_get (by omega)))
      have d1 := (bel.cell (p := ⟨g0, o0 + (k + 1), none⟩) hg0).trans (rd (k + 1) _ (cI_get hlt))
      have hrl : RdI (wr.alloc (Obj.cells #[] 3)) (.slice (some ⟨g0, o0, none⟩) l.length c0) l := h1.bl (bl_alloc bel _)
      go_wp2_with (first | (go_at_call 77; refine (l33Ok_any _ l _ _ _ (h1.bl bel) hl).mono ?_; rintro e w' ⟨rfl, rfl⟩) | (at_builtin; refine wpList_app_ints _ rfl _ _ rfl wr.heap.size _ [] rfl (own_new0 (Nat.le_refl _) rfl) _ l rfl hrl (by simp; omega) (by simp) l rfl ?_; intro A1 c1 w1 ow1 b1; obtain ⟨g, rfl, g1, g2⟩ := own_headS ow1 (by omega); have e0 : w1.cell? ⟨g, k, none⟩ = some (.int .i64 (gi l k)) := (ow1.cellAt k (by omega)).trans (cI_get (by omega)); have e1 : w1.cell? ⟨g, k + 1, none⟩ = some (.int .i64 (gi l (k + 1))) := (ow1.cellAt (k + 1) (by omega)).trans (cI_get (by omega)); have f0 := ow1.frozenAt k; have f1' := ow1.frozenAt (k + 1); have u0 := (b1.cell (p := ⟨g0, o0 + k, none⟩) (by simp; omega)).trans ((World.cell?_alloc_lt wr _ ⟨g0, o0 + k, none⟩ (by simp; omega)).trans d0); have u1 := (b1.cell (p := ⟨g0, o0 + (k + 1), none⟩) (by simp; omega)).trans ((World.cell?_alloc_lt wr _ ⟨g0, o0 + (k + 1), none⟩ (by simp; omega)).trans d1); have hgg : g0 ≠ g := by omega))
      have ow2 := ((ow1.stored k (.int .i64 (gi l (k + 1)))).1.stored (k + 1) (.int .i64 (gi l k))).1
      rw [cI_set, cI_set] at ow2
      have hrd : RdI ((w1.setCell ⟨g, k, none⟩ (.int .i64 (gi l (k + 1)))).setCell ⟨g, k + 1, none⟩ (.int .i64 (gi l k))) (.slice (some ⟨g, 0, none⟩) l.length c1) (swpN l k) := by
        rw [RdI, swpN_len]; exact Rd.of_own ow2
      have b0 : Below wr.heap.size wr w1 := Below.trans (bl_alloc (Below.refl _ _) _) b1
      have bel2 : Below w.heap.size w ((w1.setCell ⟨g, k, none⟩ (.int .i64 (gi l (k + 1)))).setCell ⟨g, k + 1, none⟩ (.int .i64 (gi l k))) := bl_set (bl_set (bl_to bel b0) (by simp; omega) _) (by simp; omega) _
      have owl := own_two (own_bl ow b0) (g := g) (i := k) (j := k + 1) (x := .int .i64 (gi l (k + 1))) (y := .int .i64 (gi l k)) (fun e => by have := (ow.lt _ e).2; omega)
      have sz2 : w.heap.size ≤ ((w1.setCell ⟨g, k, none⟩ (.int .i64 (gi l (k + 1)))).setCell ⟨g, k + 1, none⟩ (.int .i64 (gi l k))).heap.size := bel2.size
      have hsl : (swpN l k).length ≤ 1048576 := by rw [swpN_len]; exact hl
      refine (isS_any _ (swpN l k) _ hrd hsl).mono ?_
      rintro e wq ⟨rfl, rfl⟩
      cases hs : chkB (swpN l k)
      · have hh := Lib.hid (fswN_no hs)
        go_wp2
        go_roundw
        case rel => exact ⟨k + 1, by omega, by go_num, by rw [hh.out]; exact owl, bel2, sz2⟩
        case measure => simp [intOf]; omega
      · have hh := Lib.hid (fswN_yes hs)
        go_wp2_with (at_builtin; refine wpList_app_int _ rfl _ _ rfl w.heap.size _ _ rfl (owl.alloc _) _ (k : Int) rfl ?_ (by omega) (by (first | omega | (simp; done) | (simp; omega))) ?_; rotate_left; intro v2 w3 ow3 bel3)
        · have bel4 : Below w.heap.size w w3 := Below.trans (bl_alloc bel2 _) (bel3.mono (by omega))
          go_roundw
          case rel => exact ⟨k + 1, by omega, by go_num, by rw [hh.out]; exact ow3, bel4, bel4.size⟩
          case measure => simp [intOf]; omega
        all_goals (first | (simp; done) | exact cell_newI (by simp))
    · obtain e : k = l.length - 1 := by omega
      have hlt' : ¬ (k : Int) + 1 < (l.length : Int) := by omega
      go_wp2
      go_ret
      obtain ⟨A, c, rfl⟩ := own_form ow
      subst e
      exact ⟨A, c, rfl, ow, bel⟩
end Go.Proofs.Ytoijjjaodfincaa
