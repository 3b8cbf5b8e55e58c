/- ByDue of the reference; lengths up to 2^20. -/
import Derived.Test.YtloienidakomdaaDueI
namespace Go.Proofs.Ytloienidakomdaa
open Go.RowKit

theorem dueK_nat (l : List (Int × Int × Int)) (k : Nat) : dueK l (k : Int) = (gJ l k).2.1 := by rw [dueK, Int.toNat_natCast]
set_option maxHeartbeats 3200000 in
set_option maxRecDepth 100000 in
theorem dueS_any (v : Value) (l : List (Int × Int × Int)) (w : World) (h1 : RdJ w v l) (hl : l.length ≤ 1048576) :
    Calls Try.prog 10 #[v] w (NewRow 3 1 (dueF l).length (cI (dueF l)) w) := by
  obtain ⟨Al, cl, rfl, hc, hm⟩ := h1.form
  unfold maxLen at hm
  have own1 : (w.alloc (Obj.cells #[] 3)).ownsRow w.heap.size 3 1 (.slice (some ⟨w.heap.size, 0, none⟩) 0 0) 0 (cI []) := own_new0 (Nat.le_refl _) rfl
  cases ho : jobsB l
  · have hF : dueF l = [] := by simp [dueF, ho]
    rw [hF]
    by_cases h0 : l.length = 0
    · have g1 : decide ((0 : Int) < (l.length : Int)) = false := by rw [decide_eq_false_iff_not]; omega
      have g2 : ¬ (0 : Int) < (l.length : Int) := by omega
      clear h0 h1
      go_enter Try.func10, Try.ntmps10
      go_wp2
      go_loopw [3, 4] (fun v i wr => v = .slice (some ⟨w.heap.size, 0, none⟩) 0 0 ∧ i = .int .i64 0 ∧ wr = w.alloc (Obj.cells #[] 3)) (fun _ _ _ => 0)
      case atStart => exact ⟨rfl, rfl, rfl⟩
      case round =>
        obtain ⟨rfl, rfl, rfl⟩ := hrel
        go_wp2
        go_ret
        exact ⟨_, _, rfl, own1, by (repeat' (first | (with_reducible exact Below.refl _ _) | (with_reducible refine bl_alloc ?_ _) | (with_reducible refine bl_drewN ?_ _) | (with_reducible refine bl_drew ?_) | (with_reducible assumption) | (with_reducible refine bl_to ?_ (by assumption)) | (with_reducible refine Below.trans ?_ (by assumption)) | (with_reducible refine Below.trans ?_ (Below.mono (by assumption) ?_)) | (with_reducible refine bl_set ?_ ?_ _) | (simp; done) | (simp; omega) | omega))⟩
    · have g1 : decide ((0 : Int) < (l.length : Int)) = true := by rw [decide_eq_true_eq]; omega
      have g2 : (0 : Int) < (l.length : Int) := by omega
      clear h0
      go_enter Try.func10, Try.ntmps10
      go_wp2
      go_loopw [3, 4] (fun v i wr => v = .slice (some ⟨w.heap.size, 0, none⟩) 0 0 ∧ i = .int .i64 0 ∧ wr = w.alloc (Obj.cells #[] 3)) (fun _ _ _ => 0)
      case atStart => exact ⟨rfl, rfl, rfl⟩
      case round =>
        obtain ⟨rfl, rfl, rfl⟩ := hrel
        go_wp2_with (go_at_call 31; refine (jobsS_any _ l _ (h1.bl (by (repeat' (first | (with_reducible exact Below.refl _ _) | (with_reducible refine bl_alloc ?_ _) | (with_reducible refine bl_drewN ?_ _) | (with_reducible refine bl_drew ?_) | (with_reducible assumption) | (with_reducible refine bl_to ?_ (by assumption)) | (with_reducible refine Below.trans ?_ (by assumption)) | (with_reducible refine Below.trans ?_ (Below.mono (by assumption) ?_)) | (with_reducible refine bl_set ?_ ?_ _) | (simp; done) | (simp; omega) | omega)))) hl).mono ?_; rintro e w1 ⟨rfl, b1⟩; obtain ⟨k1, f1, z1⟩ := bcell b1)
        go_ret
        exact ⟨_, _, rfl, own_bl own1 b1, by (repeat' (first | (with_reducible exact Below.refl _ _) | (with_reducible refine bl_alloc ?_ _) | (with_reducible refine bl_drewN ?_ _) | (with_reducible refine bl_drew ?_) | (with_reducible assumption) | (with_reducible refine bl_to ?_ (by assumption)) | (with_reducible refine Below.trans ?_ (by assumption)) | (with_reducible refine Below.trans ?_ (Below.mono (by assumption) ?_)) | (with_reducible refine bl_set ?_ ?_ _) | (simp; done) | (simp; omega) | omega))⟩
  · have hF : dueF l = dueL (dueK l) l.length := by simp [dueF, ho]
    have h8 : l.length ≤ 8 := by simp [jobsB] at ho; exact ho.1
    rw [hF, dueL_len]
    clear hF
    go_enter Try.func10, Try.ntmps10
    go_wp2
    go_loopw [3, 4] (fun v i wr => ∃ k : Nat, k ≤ l.length ∧ i = .int .i64 k ∧ wr.ownsRow w.heap.size 3 1 v k (cI (dueL (dueK l) k)) ∧ Below w.heap.size w wr ∧ w.heap.size ≤ wr.heap.size) (fun _ i _ => l.length - (intOf i).toNat)
    case atStart => exact ⟨0, Nat.zero_le _, rfl, own1, by (repeat' (first | (with_reducible exact Below.refl _ _) | (with_reducible refine bl_alloc ?_ _) | (with_reducible refine bl_drewN ?_ _) | (with_reducible refine bl_drew ?_) | (with_reducible assumption) | (with_reducible refine bl_to ?_ (by assumption)) | (with_reducible refine Below.trans ?_ (by assumption)) | (with_reducible refine Below.trans ?_ (Below.mono (by assumption) ?_)) | (with_reducible refine bl_set ?_ ?_ _) | (simp; done) | (simp; omega) | omega)), by simp⟩
    case round =>
      clear own1
      obtain ⟨k, hk, rfl, ow, bel, szr⟩ := hrel
      obtain ⟨A, c, rfl⟩ := own_form ow
      by_cases hlt : k < l.length
      · have hlt' : (k : Int) < (l.length : Int) := by omega
        have k0 : (0 : Int) ≤ (k : Int) := by omega
        have mve : dueL (dueK l) k ++ [(k : Int)] = mv (dueL (dueK l) k) (k : Int) k := by
          have := mv_end (L := dueL (dueK l) k) (x := (k : Int))
          rw [dueL_len] at this
          exact this.symm
        have MVE := Lib.hid mve
        clear mve
        have ow' : wr.ownsRow w.heap.size 3 1 (.slice A k c) (dueL (dueK l) k).length (cI (dueL (dueK l) k)) := by rw [dueL_len]; exact ow
        clear ow
        go_wp2_with (first | ((go_at_call 31; refine (jobsS_any _ l _ (h1.bl (by (repeat' (first | (with_reducible exact Below.refl _ _) | (with_reducible refine bl_alloc ?_ _) | (with_reducible refine bl_drewN ?_ _) | (with_reducible refine bl_drew ?_) | (with_reducible assumption) | (with_reducible refine bl_to ?_ (by assumption)) | (with_reducible refine Below.trans ?_ (by assumption)) | (with_reducible refine Below.trans ?_ (Below.mono (by assumption) ?_)) | (with_reducible refine bl_set ?_ ?_ _) | (simp; done) | (simp; omega) | omega)))) hl).mono ?_; rintro e w1 ⟨rfl, b1⟩; obtain ⟨k1, f1, z1⟩ := bcell b1); have s1 := b1.size) | (at_builtin; refine wpList_app_int _ rfl _ _ rfl w.heap.size _ _ rfl ((own_bl ow' b1).alloc _) _ (k : Int) rfl ?_ (by rw [dueL_len]; omega) (by (first | omega | (simp; done) | (simp; omega))) ?_; rotate_left; intro v2 w3 ow3 bel3))
        · have bel4 : Below w.heap.size w w3 := Below.trans (bl_alloc (bl_to bel b1) _) (bel3.mono (by omega))
          have sz3 := bel4.size
          obtain ⟨A3, c3, rfl⟩ := own_form ow3
          obtain ⟨b, rfl, hbl, hbs⟩ := own_headD ow3 (by simp)
          rw [MVE.out] at ow3
          have ml : (mv (dueL (dueK l) k) (k : Int) k).length = k + 1 := by rw [mv_len, dueL_len]
          have al : (dueL (dueK l) k ++ [(k : Int)]).length = k + 1 := by rw [MVE.out, ml]
          rw [ml] at ow3
          rw [al]
          clear k1 f1 z1 b1 s1 bel3 ow' ml al
          go_loopw [5] (fun vj wr => ∃ (j : Nat) (z : Int), vj = .int .i64 j ∧ j ≤ k ∧ (∀ a, j ≤ a → a < k → dueK l (k : Int) < dueK l (gi (dueL (dueK l) k) a)) ∧ wr.ownsRow w.heap.size 3 1 (.slice (some ⟨b, 0, none⟩) (k + 1) c3) (k + 1) (cI (mv (dueL (dueK l) k) z j)) ∧ Below w.heap.size w wr ∧ w.heap.size ≤ wr.heap.size) (fun vj _ => (intOf vj).toNat)
          case atStart => exact ⟨k, (k : Int), rfl, Nat.le_refl _, fun a h1 h2 => by omega, ow3, bel4, sz3⟩
          case round =>
            clear ow3 bel4 sz3
            obtain ⟨j, z, rfl, hj, hall, ow, bel, szr⟩ := hrel
            have HALL := Lib.hid hall
            clear hall
            obtain ⟨gk, ok, hAl, hgk, _, ek, _⟩ := RdJ.at_ (h1.bl bel) hlt
            rw [← dueK_nat] at ek
            have ml : (mv (dueL (dueK l) k) z j).length = k + 1 := by rw [mv_len, dueL_len]
            have HML := Lib.hid ml
            have e1 : wr.cell? ⟨b, j, none⟩ = some (.int .i64 z) := (ow.cellAt j (by omega)).trans ((cI_get (by omega)).trans (by have := mv_at (L := dueL (dueK l) k) (T := []) (x := z) (j := j) (by rw [dueL_len]; exact hj); rw [List.append_nil] at this; rw [this]))
            have f1 := ow.frozenAt j
            clear ml
            rcases j with _ | jp
            · have HO := Lib.hid (dueL_next (d := dueK l) (i := k) (j := 0) hj HALL.out (.inl rfl))
              have ow4 := (ow.stored 0 (.int .i64 (k : Int))).1
              rw [cI_set, mv_put (by omega), HO.out] at ow4
              have bel4 : Below w.heap.size w (wr.drew.setCell ⟨b, 0, none⟩ (.int .i64 (k : Int))) := bl_set (bl_drew bel) hbl _
              have g1 : decide ((0 : Int) < ((0 : Nat) : Int)) = false := by decide
              have g2 : ¬ (0 : Int) < ((0 : Nat) : Int) := by omega
              have g3 : (0 : Int) < (k : Int) + 1 := by omega
              clear h1 hAl ek
              go_wp2_with fail
              go_quiet (fail)
              go_wp2
              go_roundw
              case rel => exact ⟨k + 1, by omega, by go_num, by first | exact ow4 | exact ow4.drew | exact own_drewN ow4 _, by (repeat' (first | (with_reducible exact Below.refl _ _) | (with_reducible refine bl_alloc ?_ _) | (with_reducible refine bl_drewN ?_ _) | (with_reducible refine bl_drew ?_) | (with_reducible assumption) | (with_reducible refine bl_to ?_ (by assumption)) | (with_reducible refine Below.trans ?_ (by assumption)) | (with_reducible refine Below.trans ?_ (Below.mono (by assumption) ?_)) | (with_reducible refine bl_set ?_ ?_ _) | (simp; done) | (simp; omega) | omega)), by simpa using szr⟩
              case measure => simp [intOf]; omega
            · have jl : jp < k := by omega
              have e2 : wr.cell? ⟨b, jp, none⟩ = some (.int .i64 (gi (dueL (dueK l) k) jp)) := (ow.cellAt jp (by omega)).trans ((cI_get (by have := HML.out; omega)).trans (by have := mv_pred (L := dueL (dueK l) k) (T := []) (x := z) (j := jp) (by rw [dueL_len]; exact jl); rw [List.append_nil] at this; rw [this]))
              obtain ⟨y0, y1⟩ := dueL_bd (d := dueK l) jl
              obtain ⟨y, hy⟩ := Int.eq_ofNat_of_zero_le y0
              have HY := Lib.hid hy
              rw [hy] at e2 y1
              obtain ⟨gy, oy, hAl2, _, _, ey, _⟩ := RdJ.at_ (h1.bl bel) (k := y) (by omega)
              rw [← dueK_nat] at ey
              subst hAl
              obtain ⟨rfl, rfl⟩ : gk = gy ∧ ok = oy := by simpa using hAl2
              have p1 : IntKind.i64.wrap (jp : Int) = (jp : Int) := IntWalk.i64_in _ (by omega)
              have p2 : (jp : Int) + 1 < (k : Int) + 1 := by omega
              have p3 : (jp : Int) < (k : Int) + 1 := by omega
              have p4 : (0 : Int) < (jp : Int) + 1 := by omega
              have p5 : ((jp : Int) + 1).toNat = jp + 1 := by omega
              have p6 : (0 : Int) ≤ (jp : Int) + 1 := by omega
              have p7 : (0 : Int) ≤ (jp : Int) := by omega
              have p8 : (y : Int) < (l.length : Int) := by omega
              have p9 : (0 : Int) ≤ (y : Int) := by omega
              clear hy y0 h1 hAl2
              by_cases hs : dueK l (k : Int) < dueK l (y : Int)
              · have HALL2 := Lib.hid (show ∀ a, jp ≤ a → a < k → dueK l (k : Int) < dueK l (gi (dueL (dueK l) k) a) from fun a h1 h2 => by
                  by_cases e : a = jp
                  · rw [e, HY.out]; exact hs
                  · exact HALL.out a (by omega) h2)
                have mb := mv_back (L := dueL (dueK l) k) (T := []) (x := z) (j := jp) (by rw [dueL_len]; exact jl)
                simp only [List.append_nil] at mb
                rw [HY.out] at mb
                have ow4 := (ow.stored (jp + 1) (.int .i64 (y : Int))).1
                rw [cI_set, mb] at ow4
                clear mb
                go_wp2_with fail
                go_quiet (fail)
                go_wp2
                go_roundw
                case rel => exact ⟨jp, (y : Int), by go_num, by omega, HALL2.out, by first | exact ow4 | exact ow4.drew | exact own_drewN ow4 _, by (repeat' (first | (with_reducible exact Below.refl _ _) | (with_reducible refine bl_alloc ?_ _) | (with_reducible refine bl_drewN ?_ _) | (with_reducible refine bl_drew ?_) | (with_reducible assumption) | (with_reducible refine bl_to ?_ (by assumption)) | (with_reducible refine Below.trans ?_ (by assumption)) | (with_reducible refine Below.trans ?_ (Below.mono (by assumption) ?_)) | (with_reducible refine bl_set ?_ ?_ _) | (simp; done) | (simp; omega) | omega)), by simpa using szr⟩
                case measure => first | (simp [intOf]; done) | (simp [intOf]; omega)
              · have HO := Lib.hid (dueL_next (d := dueK l) (i := k) (j := jp + 1) hj HALL.out (.inr (by rw [Nat.add_sub_cancel, HY.out]; exact hs)))
                have hs' : ¬ dueK l (k : Int) < dueK l (y : Int) := hs
                have ow4 := (ow.stored (jp + 1) (.int .i64 (k : Int))).1
                rw [cI_set, mv_put (by rw [dueL_len]; omega), HO.out] at ow4
                clear hs
                go_wp2_with fail
                go_quiet (fail)
                go_wp2
                go_roundw
                case rel => exact ⟨k + 1, by omega, by go_num, by first | exact ow4 | exact ow4.drew | exact own_drewN ow4 _, by (repeat' (first | (with_reducible exact Below.refl _ _) | (with_reducible refine bl_alloc ?_ _) | (with_reducible refine bl_drewN ?_ _) | (with_reducible refine bl_drew ?_) | (with_reducible assumption) | (with_reducible refine bl_to ?_ (by assumption)) | (with_reducible refine Below.trans ?_ (by assumption)) | (with_reducible refine Below.trans ?_ (Below.mono (by assumption) ?_)) | (with_reducible refine bl_set ?_ ?_ _) | (simp; done) | (simp; omega) | omega)), by simpa using szr⟩
                case measure => simp [intOf]; omega
        all_goals (simp [go_sem]; done)
      · obtain rfl : k = l.length := by omega
        have hlt' : ¬ (l.length : Int) < (l.length : Int) := by omega
        go_wp2
        go_ret
        exact ⟨A, c, rfl, ow, bel⟩
end Go.Proofs.Ytloienidakomdaa
