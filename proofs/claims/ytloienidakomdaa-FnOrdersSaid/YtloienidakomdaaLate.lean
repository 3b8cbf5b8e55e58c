/- LateJobs of the program and of the reference; lengths up to 2^20. -/
import Derived.Test.YtloienidakomdaaLateI
namespace Go.Proofs.Ytloienidakomdaa
open Go.RowKit

theorem dueK_nat (l : List (Int × Int × Int)) (k : Nat) : dueK l (k : Int) = (gJ l k).2.1 := by rw [dueK, Int.toNat_natCast]
set_option maxHeartbeats 3200000 in
set_option maxRecDepth 100000 in
theorem lateI_any (v v2 : Value) (l : List (Int × Int × Int)) (o : List Int) (w : World) (h1 : RdJ w v l) (h2 : RdI w v2 o) (hl : l.length ≤ 1048576) (hl2 : o.length ≤ 1048576) :
    Calls Try.prog 20 #[v, v2] w (NewRow 3 1 (lateF l o).length (cI (lateF l o)) w) := by
  obtain ⟨Al, cl, rfl, hc, hm⟩ := h1.form
  obtain ⟨Ao, co, rfl, hc2, hm2⟩ := h2.form
  unfold maxLen at hm hm2
  cases ho : jobsB l
  · have hF : lateF l o = [] := by simp [lateF, ho]
    rw [hF]
    go_enter Try.func20, Try.ntmps20
    go_wp2_with (go_at_call 30; refine (jobsI_any _ l _ (h1.bl (by (repeat' (first | (with_reducible exact Below.refl _ _) | (with_reducible refine bl_alloc ?_ _) | (with_reducible refine bl_drewN ?_ _) | (with_reducible refine bl_drew ?_) | (with_reducible assumption) | (with_reducible refine bl_to ?_ (by assumption)) | (with_reducible refine Below.trans ?_ (by assumption)) | (with_reducible refine Below.trans ?_ (Below.mono (by assumption) ?_)) | (with_reducible refine bl_set ?_ ?_ _) | (simp; done) | (simp; omega) | omega)))) hl).mono ?_; rintro e w1 ⟨rfl, b1⟩; obtain ⟨k1, f1, z1⟩ := bcell b1)
    go_ret
    exact ⟨none, 0, rfl, World.ownsRow_nil _ _ _ _, by (repeat' (first | (with_reducible exact Below.refl _ _) | (with_reducible refine bl_alloc ?_ _) | (with_reducible refine bl_drewN ?_ _) | (with_reducible refine bl_drew ?_) | (with_reducible assumption) | (with_reducible refine bl_to ?_ (by assumption)) | (with_reducible refine Below.trans ?_ (by assumption)) | (with_reducible refine Below.trans ?_ (Below.mono (by assumption) ?_)) | (with_reducible refine bl_set ?_ ?_ _) | (simp; done) | (simp; omega) | omega))⟩
  cases hp : permB o l.length
  · have hF : lateF l o = [] := by simp [lateF, hp]
    rw [hF]
    go_enter Try.func20, Try.ntmps20
    go_wp2_with (first | (go_at_call 30; refine (jobsI_any _ l _ (h1.bl (by (repeat' (first | (with_reducible exact Below.refl _ _) | (with_reducible refine bl_alloc ?_ _) | (with_reducible refine bl_drewN ?_ _) | (with_reducible refine bl_drew ?_) | (with_reducible assumption) | (with_reducible refine bl_to ?_ (by assumption)) | (with_reducible refine Below.trans ?_ (by assumption)) | (with_reducible refine Below.trans ?_ (Below.mono (by assumption) ?_)) | (with_reducible refine bl_set ?_ ?_ _) | (simp; done) | (simp; omega) | omega)))) hl).mono ?_; rintro e w1 ⟨rfl, b1⟩; obtain ⟨k1, f1, z1⟩ := bcell b1) | (go_at_call 39; refine (isPerm_any _ o l.length _ (h2.bl (by (repeat' (first | (with_reducible exact Below.refl _ _) | (with_reducible refine bl_alloc ?_ _) | (with_reducible refine bl_drewN ?_ _) | (with_reducible refine bl_drew ?_) | (with_reducible assumption) | (with_reducible refine bl_to ?_ (by assumption)) | (with_reducible refine Below.trans ?_ (by assumption)) | (with_reducible refine Below.trans ?_ (Below.mono (by assumption) ?_)) | (with_reducible refine bl_set ?_ ?_ _) | (simp; done) | (simp; omega) | omega)))) hl hl2).mono ?_; rintro e w2 ⟨rfl, b2⟩; obtain ⟨k2, f2, z2⟩ := bcell b2))
    go_ret
    exact ⟨none, 0, rfl, World.ownsRow_nil _ _ _ _, by (repeat' (first | (with_reducible exact Below.refl _ _) | (with_reducible refine bl_alloc ?_ _) | (with_reducible refine bl_drewN ?_ _) | (with_reducible refine bl_drew ?_) | (with_reducible assumption) | (with_reducible refine bl_to ?_ (by assumption)) | (with_reducible refine Below.trans ?_ (by assumption)) | (with_reducible refine Below.trans ?_ (Below.mono (by assumption) ?_)) | (with_reducible refine bl_set ?_ ?_ _) | (simp; done) | (simp; omega) | omega))⟩
  have hF : lateF l o = srtG (lateN l o l.length) (lateN l o l.length).length := by rw [late_eq ho hp]; simp [lateF, ho, hp]
  have h8 : l.length ≤ 8 := by simp [jobsB] at ho; exact ho.1
  obtain ⟨hol, hok⟩ : o.length = l.length ∧ okP o l.length l.length = true := by simpa [permB] using hp
  rw [hF, srtG_len]
  have HOL := Lib.hid hol
  have HOK := Lib.hid hok
  have HJ := Lib.hid ho
  clear hF hol hok
  go_enter Try.func20, Try.ntmps20
  go_wp2_with (first | (go_at_call 30; refine (jobsI_any _ l _ (h1.bl (by (repeat' (first | (with_reducible exact Below.refl _ _) | (with_reducible refine bl_alloc ?_ _) | (with_reducible refine bl_drewN ?_ _) | (with_reducible refine bl_drew ?_) | (with_reducible assumption) | (with_reducible refine bl_to ?_ (by assumption)) | (with_reducible refine Below.trans ?_ (by assumption)) | (with_reducible refine Below.trans ?_ (Below.mono (by assumption) ?_)) | (with_reducible refine bl_set ?_ ?_ _) | (simp; done) | (simp; omega) | omega)))) hl).mono ?_; rintro e w1 ⟨rfl, b1⟩; obtain ⟨k1, f1, z1⟩ := bcell b1) | (go_at_call 39; refine (isPerm_any _ o l.length _ (h2.bl (by (repeat' (first | (with_reducible exact Below.refl _ _) | (with_reducible refine bl_alloc ?_ _) | (with_reducible refine bl_drewN ?_ _) | (with_reducible refine bl_drew ?_) | (with_reducible assumption) | (with_reducible refine bl_to ?_ (by assumption)) | (with_reducible refine Below.trans ?_ (by assumption)) | (with_reducible refine Below.trans ?_ (Below.mono (by assumption) ?_)) | (with_reducible refine bl_set ?_ ?_ _) | (simp; done) | (simp; omega) | omega)))) hl hl2).mono ?_; rintro e w2 ⟨rfl, b2⟩; obtain ⟨k2, f2, z2⟩ := bcell b2))
  have own0 : (w2.alloc (Obj.cells #[] 3)).ownsRow w2.heap.size 3 1 (.slice (some ⟨w2.heap.size, 0, none⟩) 0 0) (lateN l o 0).length (cI (lateN l o 0)) := own_new0 (Nat.le_refl _) rfl
  have bel0 : Below w.heap.size w (w2.alloc (Obj.cells #[] 3)) := by (repeat' (first | (with_reducible exact Below.refl _ _) | (with_reducible refine bl_alloc ?_ _) | (with_reducible refine bl_drewN ?_ _) | (with_reducible refine bl_drew ?_) | (with_reducible assumption) | (with_reducible refine bl_to ?_ (by assumption)) | (with_reducible refine Below.trans ?_ (by assumption)) | (with_reducible refine Below.trans ?_ (Below.mono (by assumption) ?_)) | (with_reducible refine bl_set ?_ ?_ _) | (simp; done) | (simp; omega) | omega))
  have sz2 : w.heap.size ≤ w2.heap.size := Nat.le_trans b1.size b2.size
  clear k1 f1 z1 b1 k2 f2 z2 b2 ho hp
  go_loopw [5, 6, 22] (fun v e i wr => ∃ k : Nat, k ≤ l.length ∧ i = .int .i64 k ∧ e = .int .i64 (endN l o k) ∧ wr.ownsRow w2.heap.size 3 1 v (lateN l o k).length (cI (lateN l o k)) ∧ Below w.heap.size w wr ∧ w2.heap.size ≤ wr.heap.size) (fun _ _ i _ => l.length - (intOf i).toNat)
  case atStart => exact ⟨0, Nat.zero_le _, rfl, rfl, own0, bel0, by simp⟩
  case round =>
    clear own0 bel0
    obtain ⟨k, hk, rfl, rfl, ow, bel, szr⟩ := hrel
    obtain ⟨A, c, rfl⟩ := own_form ow
    have hll := lateN_len l o k
    by_cases hlt : k < l.length
    · have hlt' : (k : Int) < (o.length : Int) := by have := HOL.out; omega
      have k0 : (0 : Int) ≤ (k : Int) := by omega
      obtain ⟨b, oo, rfl, hb, q1⟩ := (h2.bl bel).look (by have := HOL.out; omega)
      have e1 := q1 k _ (cI_get (by have := HOL.out; omega))
      obtain ⟨x0, xn⟩ := (stpP_iff.1 (okP_at HOK.out hlt)).1
      obtain ⟨x, hx⟩ := Int.eq_ofNat_of_zero_le x0
      rw [hx] at e1 xn
      obtain ⟨g, og, rfl, _, d0, d1, _⟩ := RdJ.at_ (h1.bl bel) (k := x) (by omega)
      rw [← dueK_nat] at d1
      obtain ⟨⟨⟨j1, j2⟩, j3, j4⟩, _⟩ := jobB_bd HJ.out (k := x) (by omega)
      have ebd := endN_bd (o := o) HJ.out k (fun i hi => (stpP_iff.1 (okP_at HOK.out (show i < l.length by omega))).1)
      have es : endN l o (k + 1) = endN l o k + (gJ l x).1 := by rw [endN, hx]; rfl
      have ES := Lib.hid es
      have j5 : 0 ≤ dueK l (x : Int) ∧ dueK l (x : Int) ≤ 200 := by rw [dueK_nat]; exact ⟨j3, j4⟩
      have x1 : (x : Int) < (l.length : Int) := xn
      have x2 : (0 : Int) ≤ (x : Int) := by omega
      have LS : Hid (lateN l o (k + 1) = if dueK l (x : Int) < endN l o k + (gJ l x).1 then lateN l o k ++ [(x : Int)] else lateN l o k) := by show _ = _; rw [lateN, hx, es]
      clear q1 h1 h2 x0 es hx
      by_cases hs : dueK l (x : Int) < endN l o k + (gJ l x).1
      · have hh : Hid (lateN l o (k + 1) = lateN l o k ++ [(x : Int)]) := LS.out.trans (if_pos hs)
        go_wp2_with (at_builtin; refine wpList_app_int _ rfl _ _ rfl w2.heap.size _ _ rfl (ow.alloc _) _ (x : Int) rfl ?_ (by omega) (by (first | omega | (simp; done) | (simp; omega))) ?_; rotate_left; intro v3 w3 ow3 bel3)
        · have bel4 : Below w.heap.size w w3 := Below.trans (bl_alloc bel _) (bel3.mono (by omega))
          have sz4 : w2.heap.size ≤ w3.heap.size := by have := bel3.size; simp at this; omega
          go_roundw
          case rel => exact ⟨k + 1, by omega, by go_num, by rw [ES.out], by rw [hh.out]; exact ow3, bel4, sz4⟩
          case measure => simp [intOf]; omega
        all_goals (simp [go_sem]; done)
      · have hh : Hid (lateN l o (k + 1) = lateN l o k) := LS.out.trans (if_neg hs)
        go_wp2
        go_roundw
        case rel => exact ⟨k + 1, by omega, by go_num, by rw [ES.out], by rw [hh.out]; exact ow, bel, szr⟩
        case measure => simp [intOf]; omega
    · obtain rfl : k = l.length := by omega
      have hlt' : ¬ (l.length : Int) < (o.length : Int) := by have := HOL.out; omega
      have g1 : decide ((l.length : Int) < (o.length : Int)) = false := decide_eq_false hlt'
      clear h1 h2
      go_wp2_with (go_at_call 40; refine (sortO_any _ (lateN l o l.length) _ _ _ (by omega) ow).mono ?_; rintro e w4 ⟨rfl, ow4, gr4⟩)
      go_ret
      exact ⟨A, c, rfl, own_lo ow4 (by omega), bl_grown bel gr4 (fun j hj => by have := (ow.lt j hj).1; omega)⟩
end Go.Proofs.Ytloienidakomdaa
