/- LateJobs of the reference; lengths up to 2^20. -/
import Derived.Test.YtloienidakomdaaLate
namespace Go.Proofs.Ytloienidakomdaa
open Go.RowKit

theorem own_setL {w : World} {lo : Nat} {e : TypeId} {s n : Nat} {v : Value} {xs : List Value} (h : w.ownsRow lo e s v n xs) {a : Addr} (hne : v.ownBlock ≠ some a.block) (u : Value) : (w.setCell a u).ownsRow lo e s v n xs :=
  h.kept (row := some a.block) ⟨rfl, rfl, rfl, by simp, fun k _ hk => Below.heap_setCell _ _ _ _ (fun e => hk (by rw [e]))⟩ (.inr hne)
theorem own_keepB {w w' : World} {B lo : Nat} {e : TypeId} {s n : Nat} {v : Value} {xs : List Value} (h : w.ownsRow lo e s v n xs) (b : Below B w w') (hv : ∀ k, v.ownBlock = some k → k < B) : w'.ownsRow lo e s v n xs := by
  obtain ⟨h0, h1⟩ := h
  refine ⟨h0, ?_⟩
  rcases h1 with h1 | ⟨g, cap, cur, hv', hlo, hg, r⟩
  · exact .inl h1
  · exact .inr ⟨g, cap, cur, hv', hlo, (b.block g (hv g (by rw [hv']; rfl))).trans hg, r⟩
set_option maxHeartbeats 3200000 in
set_option maxRecDepth 100000 in
theorem lateS_any (v v2 : Value) (l : List (Int × Int × Int)) (o : List Int) (w : World) (h1 : RdJ w v l) (h2 : RdI w v2 o) (hl : l.length ≤ 1048576) (hl2 : o.length ≤ 1048576) :
    Calls Try.prog 18 #[v, v2] w (NewRow 3 1 (lateF l o).length (cI (lateF l o)) w) := by
  obtain ⟨Al, cl, rfl, hc, hm⟩ := h1.form
  obtain ⟨Ao, co, rfl, hc2, hm2⟩ := h2.form
  unfold maxLen at hm hm2
  have own0 : (w.alloc (Obj.cells #[] 3)).ownsRow w.heap.size 3 1 (.slice (some ⟨w.heap.size, 0, none⟩) 0 0) 0 (cI []) := own_new0 (Nat.le_refl _) rfl
  cases ho : jobsB l
  · have hF : lateF l o = [] := by simp [lateF, ho]
    rw [hF]
    go_enter Try.func18, Try.ntmps18
    go_wp2_with (go_at_call 31; refine (jobsS_any _ l _ (h1.bl (by (repeat' (first | (with_reducible exact Below.refl _ _) | (with_reducible refine bl_alloc ?_ _) | (with_reducible refine bl_drewN ?_ _) | (with_reducible refine bl_drew ?_) | (with_reducible assumption) | (with_reducible refine bl_to ?_ (by assumption)) | (with_reducible refine Below.trans ?_ (by assumption)) | (with_reducible refine Below.trans ?_ (Below.mono (by assumption) ?_)) | (with_reducible refine bl_set ?_ ?_ _) | (simp; done) | (simp; omega) | omega)))) hl).mono ?_; rintro e w1 ⟨rfl, b1⟩; obtain ⟨k1, f1, z1⟩ := bcell b1)
    go_ret
    exact ⟨_, _, rfl, own_bl own0 b1, by (repeat' (first | (with_reducible exact Below.refl _ _) | (with_reducible refine bl_alloc ?_ _) | (with_reducible refine bl_drewN ?_ _) | (with_reducible refine bl_drew ?_) | (with_reducible assumption) | (with_reducible refine bl_to ?_ (by assumption)) | (with_reducible refine Below.trans ?_ (by assumption)) | (with_reducible refine Below.trans ?_ (Below.mono (by assumption) ?_)) | (with_reducible refine bl_set ?_ ?_ _) | (simp; done) | (simp; omega) | omega))⟩
  by_cases hol : o.length = l.length
  rotate_left
  · have hF : lateF l o = [] := by simp [lateF, permB, hol]
    have g1 : ((o.length : Int) != (l.length : Int)) = true := by simp; omega
    have g2 : ((o.length : Int) == (l.length : Int)) = false := by simp; omega
    have g3 : ¬ (o.length : Int) = (l.length : Int) := by omega
    rw [hF]
    clear hol hF
    go_enter Try.func18, Try.ntmps18
    go_wp2_with (go_at_call 31; refine (jobsS_any _ l _ (h1.bl (by (repeat' (first | (with_reducible exact Below.refl _ _) | (with_reducible refine bl_alloc ?_ _) | (with_reducible refine bl_drewN ?_ _) | (with_reducible refine bl_drew ?_) | (with_reducible assumption) | (with_reducible refine bl_to ?_ (by assumption)) | (with_reducible refine Below.trans ?_ (by assumption)) | (with_reducible refine Below.trans ?_ (Below.mono (by assumption) ?_)) | (with_reducible refine bl_set ?_ ?_ _) | (simp; done) | (simp; omega) | omega)))) hl).mono ?_; rintro e w1 ⟨rfl, b1⟩; obtain ⟨k1, f1, z1⟩ := bcell b1)
    go_ret
    exact ⟨_, _, rfl, own_bl own0 b1, by (repeat' (first | (with_reducible exact Below.refl _ _) | (with_reducible refine bl_alloc ?_ _) | (with_reducible refine bl_drewN ?_ _) | (with_reducible refine bl_drew ?_) | (with_reducible assumption) | (with_reducible refine bl_to ?_ (by assumption)) | (with_reducible refine Below.trans ?_ (by assumption)) | (with_reducible refine Below.trans ?_ (Below.mono (by assumption) ?_)) | (with_reducible refine bl_set ?_ ?_ _) | (simp; done) | (simp; omega) | omega))⟩
  have h8 : l.length ≤ 8 := by simp [jobsB] at ho; exact ho.1
  have g1 : ((o.length : Int) != (l.length : Int)) = false := by simp; omega
  have g2 : ((o.length : Int) == (l.length : Int)) = true := by simp; omega
  have g3 : (o.length == l.length) = true := by simp; omega
  have g4 : decide (o.length = l.length) = true := by simp; omega
  have HOL := Lib.hid hol
  have HJ := Lib.hid ho
  obtain ⟨i0, hi0, hz0, hz1, hz2⟩ := info_parts info_int
  clear hol
  go_enter Try.func18, Try.ntmps18
  go_wp2_with (first | ((go_at_call 31; refine (jobsS_any _ l _ (h1.bl (by (repeat' (first | (with_reducible exact Below.refl _ _) | (with_reducible refine bl_alloc ?_ _) | (with_reducible refine bl_drewN ?_ _) | (with_reducible refine bl_drew ?_) | (with_reducible assumption) | (with_reducible refine bl_to ?_ (by assumption)) | (with_reducible refine Below.trans ?_ (by assumption)) | (with_reducible refine Below.trans ?_ (Below.mono (by assumption) ?_)) | (with_reducible refine bl_set ?_ ?_ _) | (simp; done) | (simp; omega) | omega)))) hl).mono ?_; rintro e w1 ⟨rfl, b1⟩; obtain ⟨k1, f1, z1⟩ := bcell b1)) | (at_make; refine wpList_make_full _ rfl _ _ _ rfl w1.heap.size 3 i0 _ 1 Try.underlying24 hi0 hz0 hz1 _ _ _ _ l.length rfl rfl rfl rfl (by rw [hz2]; omega) (by unfold maxLen; omega) (Nat.le_refl _) ?_; intro w2 own2 gm2))
  have sz1 : w.heap.size < w1.heap.size := z1 _ (by (first | omega | (simp; done) | (simp; omega)))
  have ownE : w2.ownsRow w1.heap.size 3 1 (.slice (some ⟨w1.heap.size, 0, none⟩) l.length l.length) l.length (cI (endE l o 0)) := by
    simpa [cI, endE, toList_madeCells_one, Value.cells] using own2
  have b2 : Below w1.heap.size w1 w2 := (Below.refl _ _).grown gm2 (Nat.le_refl _) (by simp)
  have own1 := own_bl (own_bl own0 b1) b2
  have bel2 : Below w.heap.size w w2 := by (repeat' (first | (with_reducible exact Below.refl _ _) | (with_reducible refine bl_alloc ?_ _) | (with_reducible refine bl_drewN ?_ _) | (with_reducible refine bl_drew ?_) | (with_reducible assumption) | (with_reducible refine bl_to ?_ (by assumption)) | (with_reducible refine Below.trans ?_ (by assumption)) | (with_reducible refine Below.trans ?_ (Below.mono (by assumption) ?_)) | (with_reducible refine bl_set ?_ ?_ _) | (simp; done) | (simp; omega) | omega))
  have sz2 : w1.heap.size < w2.heap.size := (ownE.lt _ rfl).2
  clear own2 gm2 own0 k1 f1 z1 b1 b2 g1 g2 g3 g4 ho
  go_loopw [7, 8] (fun e i wr => ∃ k : Nat, k ≤ l.length ∧ i = .int .i64 k ∧ e = .int .i64 (endN l o k) ∧ okP o l.length k = true ∧ Below w.heap.size w wr ∧ w2.heap.size ≤ wr.heap.size ∧ wr.ownsRow w.heap.size 3 1 (.slice (some ⟨w.heap.size, 0, none⟩) 0 0) 0 (cI []) ∧ wr.ownsRow w1.heap.size 3 1 (.slice (some ⟨w1.heap.size, 0, none⟩) l.length l.length) l.length (cI (endE l o k))) (fun _ i _ => l.length - (intOf i).toNat)
  case atStart => exact ⟨0, Nat.zero_le _, rfl, rfl, rfl, bel2, Nat.le_refl _, own1, ownE⟩
  case round =>
    clear bel2 own1 ownE
    obtain ⟨k, hk, rfl, rfl, hok, bel, szr, own1, ow⟩ := hrel
    have HOK := Lib.hid hok
    clear hok
    by_cases hlt : k < l.length
    · have hlt' : (k : Int) < (o.length : Int) := by have := HOL.out; omega
      have k0 : (0 : Int) ≤ (k : Int) := by omega
      have lz : (1 : Int) ≤ (l.length : Int) := by omega
      obtain ⟨b, oo, rfl, hb, q1⟩ := (h2.bl bel).look (by have := HOL.out; omega)
      have e1 := q1 k _ (cI_get (by have := HOL.out; omega))
      clear q1 h2
      cases hin : inB (gi o k) 0 ((l.length : Int) - 1)
      · have hF : lateF l o = [] := by
          have : okP o l.length l.length = false := okP_no hlt (by rw [← Bool.not_eq_true, stpP_iff]; rw [inB_not] at hin; omega)
          simp [lateF, permB, this]
        rw [hF]
        clear h1 hF
        go_wp2_with (go_at_call 38; refine (l01In_any _ _ _ _).mono ?_; rintro e w' ⟨rfl, rfl⟩)
        go_ret
        exact ⟨_, _, rfl, own1, bel⟩
      obtain ⟨x0, x9⟩ := inB_iff.1 hin
      obtain ⟨pe, pz⟩ := endE_pos HJ.out HOL.out HOK.out hlt ⟨x0, by omega⟩
      have PE := Lib.hid pe
      obtain ⟨x, hx⟩ := Int.eq_ofNat_of_zero_le x0
      have HX := Lib.hid hx
      rw [hx] at e1 x9 hin pz
      rw [Int.toNat_natCast] at pz
      have el := endE_len l o k
      have e2 : wr.cell? ⟨w1.heap.size, x, none⟩ = some (.int .i64 (gi (endE l o k) x)) := (ow.cellAt x (by omega)).trans (cI_get (by omega))
      have e3 := ow.frozenAt x
      have x1 : (x : Int) < (l.length : Int) := by omega
      have x2 : (0 : Int) ≤ (x : Int) := by omega
      by_cases hs : 0 < gi (endE l o k) x
      · have hF : lateF l o = [] := by
          have : okP o l.length l.length = false := okP_no hlt (by
            rw [← Bool.not_eq_true, stpP_iff]
            exact fun h => h.2 (PE.out.1 (by rw [hx]; exact hs)))
          simp [lateF, permB, this]
        rw [hF]
        clear h1 hF hx el pe x0
        go_wp2_with (go_at_call 38; refine (l01In_any _ _ _ _).mono ?_; rintro e w' ⟨rfl, rfl⟩)
        go_ret
        exact ⟨_, _, rfl, own1, bel⟩
      · have hst : okP o l.length (k + 1) = true := by
          rw [okP, HOK.out, Bool.true_and, stpP_iff]
          exact ⟨⟨x0, by omega⟩, fun hm => hs (by have := PE.out.2 hm; rw [hx] at this; exact this)⟩
        have HST := Lib.hid hst
        obtain ⟨g, og, rfl, _, d0, _, _⟩ := RdJ.at_ (h1.bl bel) (k := x) (by omega)
        obtain ⟨⟨⟨j1, j2⟩, j3, j4⟩, _⟩ := jobB_bd HJ.out (k := x) (by omega)
        have ebd := endN_bd (o := o) HJ.out k (fun i hi => (stpP_iff.1 (okP_at HOK.out hi)).1)
        have es : endN l o (k + 1) = endN l o k + (gJ l x).1 := by rw [endN, hx]; rfl
        have ES := Lib.hid es
        have ow' := (ow.stored x (.int .i64 (endN l o k + (gJ l x).1))).1
        rw [cI_set, ← es, show (endE l o k).set x (endN l o (k + 1)) = endE l o (k + 1) by rw [endE, hx]; rfl, es] at ow'
        have own1' := own_setL own1 (a := ⟨w1.heap.size, x, none⟩) (by simp [Value.ownBlock]; omega) (.int .i64 (endN l o k + (gJ l x).1))
        have bel' : Below w.heap.size w (wr.setCell ⟨w1.heap.size, x, none⟩ (.int .i64 (endN l o k + (gJ l x).1))) := bl_set bel (by simp; omega) _
        clear h1 hst es hx el pe x0
        go_wp2_with (go_at_call 38; refine (l01In_any _ _ _ _).mono ?_; rintro e w' ⟨rfl, rfl⟩)
        go_roundw
        case rel => exact ⟨k + 1, by omega, by go_num, by rw [ES.out], HST.out, bel', by simpa using szr, own1', ow'⟩
        case measure => simp [intOf]; omega
    · obtain rfl : k = l.length := by omega
      have hF : lateF l o = lateS l (endE l o l.length) l.length := by simp [lateF, permB, HJ.out, HOL.out, HOK.out]
      have HF := Lib.hid hF
      clear hF
      have hlt' : ¬ (l.length : Int) < (o.length : Int) := by have := HOL.out; omega
      have EL := Lib.hid (endE_len l o l.length)
      obtain ⟨wp, hwp⟩ : ∃ wp, wp = wr := ⟨wr, rfl⟩
      subst hwp
      have own3 : (wp.alloc (Obj.cells #[] 3)).ownsRow wp.heap.size 3 1 (.slice (some ⟨wp.heap.size, 0, none⟩) 0 0) (lateS l (endE l o l.length) 0).length (cI (lateS l (endE l o l.length) 0)) := own_new0 (Nat.le_refl _) rfl
      have owE := ow.alloc (Obj.cells #[] 3)
      have bel3 : Below w.heap.size w (wp.alloc (Obj.cells #[] 3)) := bl_alloc bel _
      have szw : w1.heap.size < wp.heap.size := by omega
      clear own1 ow h2
      go_wp2
      go_loopw [9, 10] (fun v i wr => ∃ j : Nat, j ≤ l.length ∧ i = .int .i64 j ∧ Below w.heap.size w wr ∧ wp.heap.size ≤ wr.heap.size ∧ wr.ownsRow w1.heap.size 3 1 (.slice (some ⟨w1.heap.size, 0, none⟩) l.length l.length) l.length (cI (endE l o l.length)) ∧ wr.ownsRow wp.heap.size 3 1 v (lateS l (endE l o l.length) j).length (cI (lateS l (endE l o l.length) j))) (fun _ i _ => l.length - (intOf i).toNat)
      case atStart => exact ⟨0, Nat.zero_le _, rfl, bel3, by simp, owE, own3⟩
      case round =>
        clear bel3 owE own3
        obtain ⟨j, hj, rfl, bel3, szq, owE, ow⟩ := hrel
        obtain ⟨A, c, rfl⟩ := own_form ow
        have hll := lateS_len l (endE l o l.length) j
        by_cases hlt : j < l.length
        · have hlt' : (j : Int) < (l.length : Int) := by omega
          have j0 : (0 : Int) ≤ (j : Int) := by omega
          obtain ⟨g, og, rfl, _, _, d1, _⟩ := RdJ.at_ (h1.bl bel3) hlt
          rw [← dueK_nat] at d1
          have e2 : wr.cell? ⟨w1.heap.size, j, none⟩ = some (.int .i64 (gi (endE l o l.length) j)) := (owE.cellAt j (by omega)).trans (cI_get (by rw [EL.out]; exact hlt))
          clear h1
          by_cases hs : dueK l (j : Int) < gi (endE l o l.length) j
          · have hh : Hid (lateS l (endE l o l.length) (j + 1) = lateS l (endE l o l.length) j ++ [(j : Int)]) := by show _ = _; rw [lateS, if_pos hs]
            go_wp2_with fail
            go_quiet (fail)
            have owE2 := own_drewN owE nq
            have ow2 := own_drewN ow nq
            have bel4 := bl_drewN bel3 nq
            have sz4 : wp.heap.size ≤ (wr.drewN nq).heap.size := szq
            clear owE ow bel3 szq e2 d1
            generalize wr.drewN nq = wz at *
            go_wp2_with (at_builtin; refine wpList_app_int _ rfl _ _ rfl wp.heap.size _ _ rfl (ow2.alloc _) _ (j : Int) rfl ?_ (by omega) (by (first | omega | (simp; done) | (simp; omega))) ?_; rotate_left; intro v3 w3 ow3 bel5)
            · have bel6 : Below w.heap.size w w3 := Below.trans (bl_alloc bel4 _) (bel5.mono (by omega))
              have sz6 : wp.heap.size ≤ w3.heap.size := by have := bel5.size; simp at this; omega
              have owE3 := own_keepB (owE2.alloc (Obj.cells #[Value.int IntKind.i64 (j : Int)] 3)) bel5 (fun k hk => by simp [Value.ownBlock] at hk; omega)
              go_roundw
              case rel => exact ⟨j + 1, by omega, by go_num, bel6, sz6, owE3, by rw [hh.out]; exact ow3⟩
              case measure => simp [intOf]; omega
            all_goals (simp [go_sem]; done)
          · have hh : Hid (lateS l (endE l o l.length) (j + 1) = lateS l (endE l o l.length) j) := by show _ = _; rw [lateS, if_neg hs]
            go_wp2_with fail
            go_quiet (fail)
            go_wp2
            go_roundw
            case rel => exact ⟨j + 1, by omega, by go_num, bl_drewN bel3 _, szq, own_drewN owE _, by rw [hh.out]; exact own_drewN ow _⟩
            case measure => simp [intOf]; omega
        · obtain rfl : j = l.length := by omega
          have hlt' : ¬ (l.length : Int) < (l.length : Int) := by omega
          clear h1
          go_wp2
          go_ret
          rw [HF.out]
          exact ⟨A, c, rfl, own_lo ow (Nat.le_of_lt (Nat.lt_trans sz1 szw)), bel3⟩
end Go.Proofs.Ytloienidakomdaa
