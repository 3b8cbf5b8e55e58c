/- ByDue of the program: 'upTo', the closure, the stable insertion; at most eight jobs. -/
import Derived.Test.YtloienidakomdaaDue0
import Derived.Test.YtloienidakomdaaSrt
import Derived.BigRegion
namespace Go.Proofs.Ytloienidakomdaa
open Go.RowKit

set_option maxHeartbeats 800000 in
theorem upTo_any (n : Nat) (hn : n ≤ 1048576) (w : World) : Calls Try.prog 33 #[.int .i64 (n : Int)] w (NewRow 3 1 (upI 0 n).length (cI (upI 0 n)) w) := by
  have up0 : upI 0 0 = [] := rfl
  have own1 : (w.alloc (Obj.cells #[] 3)).ownsRow w.heap.size 3 1 (.slice (some ⟨w.heap.size, 0, none⟩) 0 0) (upI 0 0).length (cI (upI 0 0)) := own_new0 (Nat.le_refl _) rfl
  clear up0
  go_enter Try.func33, Try.ntmps33
  go_wp2
  go_loopw [3, 4] (fun v i wr => ∃ k : Nat, k ≤ n ∧ i = .int .i64 k ∧ wr.ownsRow w.heap.size 3 1 v (upI 0 k).length (cI (upI 0 k)) ∧ Below w.heap.size w wr ∧ w.heap.size ≤ wr.heap.size) (fun _ i _ => n - (intOf i).toNat)
  case atStart => exact ⟨0, Nat.zero_le _, rfl, own1, by (repeat' (first | (with_reducible exact Below.refl _ _) | (with_reducible refine bl_alloc ?_ _) | (with_reducible refine bl_drewN ?_ _) | (with_reducible refine bl_drew ?_) | (with_reducible assumption) | (with_reducible refine bl_to ?_ (by assumption)) | (with_reducible refine Below.trans ?_ (by assumption)) | (with_reducible refine Below.trans ?_ (Below.mono (by assumption) ?_)) | (with_reducible refine bl_set ?_ ?_ _) | (simp; done) | (simp; omega) | omega)), by simp⟩
  case round =>
    clear own1
    obtain ⟨k, hk, rfl, ow, bel, szr⟩ := hrel
    by_cases hlt : k < n
    · have hlt' : (k : Int) < (n : Int) := by omega
      have us : upI 0 k ++ [(k : Int)] = upI 0 (k + 1) := by simp [upI, List.range_succ]
      have US := Lib.hid us
      clear us
      go_wp2_with (at_builtin; refine wpList_app_int _ rfl _ _ rfl w.heap.size _ _ rfl (ow.alloc _) _ (k : Int) rfl ?_ (by rw [upI_len]; omega) (by (first | omega | (simp; done) | (simp; omega))) ?_; rotate_left; intro v2 w3 ow3 bel3)
      · rw [US.out] at ow3
        have bel4 : Below w.heap.size w w3 := Below.trans (bl_alloc bel _) (bel3.mono (by omega))
        go_roundw
        case rel => exact ⟨k + 1, by omega, by go_num, ow3, bel4, bel4.size⟩
        case measure => simp [intOf]; omega
      all_goals (simp [go_sem]; done)
    · obtain rfl : k = n := by omega
      have hlt' : ¬ (k : Int) < (k : Int) := by omega
      obtain ⟨A, c, rfl⟩ := own_form ow
      go_wp2
      go_ret
      exact ⟨A, c, rfl, ow, bel⟩

def cmpI (x y : Int) : Int := if x < y then -1 else if y < x then 1 else 0
theorem compare_any (x y : Int) (w : World) : Calls Try.prog 36 #[.int .i64 x, .int .i64 y] w fun e w' => e = .returned (.int .i64 (cmpI x y)) ∧ w = w' := by
  have sx : (x != x) = false := by simp
  have sy : (y != y) = false := by simp
  by_cases h1 : x < y
  · go_enter Try.func36, Try.ntmps36
    go_wp2
    go_ret
    exact ⟨ret_int (by simp [cmpI, h1]), rfl⟩
  · by_cases h2 : y < x
    · go_enter Try.func36, Try.ntmps36
      go_wp2
      go_ret
      exact ⟨ret_int (by simp [cmpI, h1, h2]), rfl⟩
    · go_enter Try.func36, Try.ntmps36
      go_wp2
      go_ret
      exact ⟨ret_int (by rw [cmpI, if_neg (by omega), if_neg (by omega)]), rfl⟩

/-- the closure of ByDue, its box at block bx: it only reads -/
theorem dueC_any (bx : Nat) (A : Option Addr) (c : Nat) (l : List (Int × Int × Int)) (i j : Nat) (w : World) (h1 : RdJ w (.slice A l.length c) l) (hi : i < l.length) (hj : j < l.length) (hl : l.length ≤ 1048576) (hb : w.cell? ⟨bx, 0, none⟩ = some (.slice A l.length c)) :
    Calls Try.prog 35 #[.int .i64 (i : Int), .int .i64 (j : Int), .pointer (some ⟨bx, 0, none⟩)] w fun e w' => e = .returned (.int .i64 (cmpI (dueK l (i : Int)) (dueK l (j : Int)))) ∧ ∃ q, w' = w.drewN q := by
  obtain ⟨b, o, rfl, hb', _, e1, _⟩ := RdJ.at_ h1 hi
  obtain ⟨b2, o2, hbo, _, _, d1, _⟩ := RdJ.at_ h1 hj
  obtain ⟨rfl, rfl⟩ : b = b2 ∧ o = o2 := by simpa using hbo
  have i1 : (i : Int) < (l.length : Int) := by omega
  have j1 : (j : Int) < (l.length : Int) := by omega
  have i0 : (0 : Int) ≤ (i : Int) := by omega
  have j0 : (0 : Int) ≤ (j : Int) := by omega
  have ki : (gJ l i).2.1 = dueK l (i : Int) := by rw [dueK, Int.toNat_natCast]
  have kj : (gJ l j).2.1 = dueK l (j : Int) := by rw [dueK, Int.toNat_natCast]
  rw [ki] at e1
  rw [kj] at d1
  clear hbo h1 ki kj
  go_enter Try.func35, Try.ntmps35
  go_wp2
  go_quiet ((go_at_call 36; exact Calls.quiet_of_same ((compare_any _ _ _).mono (fun _ _ h => ⟨h.1, h.2.symm⟩))))
  go_wp2
  go_ret
  exact ⟨rfl, _, rfl⟩

theorem cmpI_lt {x y : Int} (h : x < y) : cmpI x y < 0 := by rw [cmpI, if_pos h]; decide
theorem cmpI_ge {x y : Int} (h : ¬ x < y) : ¬ cmpI x y < 0 := by
  rw [cmpI, if_neg h]
  split <;> decide
theorem cell_setD {w : World} {g j b o : Nat} {u v : Value} (h : w.cell? ⟨b, o, none⟩ = some v) (hne : b ≠ g) : (w.setCell ⟨g, j, none⟩ u).cell? ⟨b, o, none⟩ = some v :=
  (World.cell?_of_block (Below.heap_setCell w ⟨g, j, none⟩ u b hne)).trans h
set_option maxHeartbeats 3200000 in
set_option maxRecDepth 100000 in
theorem insC_any (w0 : World) (lo bx : Nat) (Al : Option Addr) (cl : Nat) (l : List (Int × Int × Int)) (A : Option Addr) (c : Nat) (w : World) (h1 : RdJ w0 (.slice Al l.length cl) l) (h8 : l.length ≤ 8) (hlo : w0.heap.size ≤ lo) (bel0 : Below w0.heap.size w0 w)
    (hbx : bx < w.heap.size) (hb0 : w.cell? ⟨bx, 0, none⟩ = some (.slice Al l.length cl)) (hown : w.ownsRow lo 3 1 (.slice A l.length c) l.length (cI (upI 0 l.length))) (hne : (Value.slice A l.length c).ownBlock ≠ some bx) :
    Calls Try.prog 53 #[.slice A l.length c, .int .i64 0, .int .i64 (l.length : Int), .func (.func 35) #[] #[.pointer (some ⟨bx, 0, none⟩)]] w fun e w' =>
      e = .returned (.tuple #[]) ∧ w'.ownsRow lo 3 1 (.slice A l.length c) l.length (cI (dueL (dueK l) l.length)) ∧ Below w0.heap.size w0 w' ∧ w.heap.size ≤ w'.heap.size ∧ w'.cell? ⟨bx, 0, none⟩ = some (.slice Al l.length cl) := by
  have st0 : (1 ≤ l.length → upI 0 l.length = outD (dueK l) l.length 1) ∧ (l.length < 1 → upI 0 l.length = dueL (dueK l) l.length) :=
    ⟨fun h => (outD_start _ _ h).symm, fun h => by rw [show l.length = 0 by omega]; rfl⟩
  have ul := upI_len 0 l.length
  go_enter Try.func53, Try.ntmps53
  go_wp2
  go_loopw [8] (fun vi wr => ∃ (i : Nat) (L : List Int), vi = .int .i64 i ∧ 1 ≤ i ∧ i ≤ l.length + 1 ∧ (i ≤ l.length → L = outD (dueK l) l.length i) ∧ (l.length < i → L = dueL (dueK l) l.length) ∧ L.length = l.length ∧ wr.ownsRow lo 3 1 (.slice A l.length c) l.length (cI L) ∧ Below w0.heap.size w0 wr ∧ w.heap.size ≤ wr.heap.size ∧ wr.cell? ⟨bx, 0, none⟩ = some (.slice Al l.length cl)) (fun vi _ => l.length + 1 - (intOf vi).toNat)
  case atStart => exact ⟨1, upI 0 l.length, rfl, by omega, by omega, st0.1, st0.2, ul, hown, bel0, Nat.le_refl _, hb0⟩
  case round =>
    clear st0 ul hown bel0 hb0
    obtain ⟨i, L, rfl, hi1, hi2, hL1, hL2, hLl, ow, bel, szr, hb⟩ := hrel
    by_cases hlt : i < l.length
    · have hlt' : (i : Int) < (l.length : Int) := by omega
      obtain ⟨b, rfl, hbl, hbs⟩ := own_headD ow (by omega)
      have hbne : b ≠ bx := fun e => hne (by rw [e]; rfl)
      have hLe := hL1 (by omega)
      rw [hLe, outD_in hlt] at ow
      clear hL1 hL2 hLl hLe
      go_wp2
      go_loopw [9] (fun vj wr => ∃ j : Nat, vj = .int .i64 j ∧ j ≤ i ∧ (∀ a, j ≤ a → a < i → dueK l (i : Int) < dueK l (gi (dueL (dueK l) i) a)) ∧ wr.ownsRow lo 3 1 (.slice (some ⟨b, 0, none⟩) l.length c) l.length (cI (mv (dueL (dueK l) i) (i : Int) j ++ upI ((i : Int) + 1) (l.length - i - 1))) ∧ Below w0.heap.size w0 wr ∧ w.heap.size ≤ wr.heap.size ∧ wr.cell? ⟨bx, 0, none⟩ = some (.slice Al l.length cl)) (fun vj _ => (intOf vj).toNat)
      case atStart => exact ⟨i, rfl, Nat.le_refl _, fun a h1 h2 => by omega, ow, bel, szr, hb⟩
      case round =>
        clear ow bel szr hb
        obtain ⟨j, rfl, hj, hall, ow, bel, szr, hb⟩ := hrel
        have HALL := Lib.hid hall
        clear hall
        have hdl := dueL_len (dueK l) i
        have ml := mvD_len (d := dueK l) (j := j) hlt
        rcases j with _ | jp
        · have HO := Lib.hid (outD_next (d := dueK l) hlt hj HALL.out (.inl rfl))
          rw [HO.out] at ow
          have OL := Lib.hid (outD_len (d := dueK l) (show i + 1 ≤ l.length by omega))
          clear hdl ml
          have g1 : decide ((0 : Int) < ((0 : Nat) : Int)) = false := by decide
          have g2 : ¬ (0 : Int) < ((0 : Nat) : Int) := by omega
          clear h1
          go_wp2_with fail
          go_quiet (fail)
          go_wp2
          go_roundw
          case rel => exact ⟨i + 1, _, by go_num, by omega, by omega, fun _ => rfl, fun h => by omega, OL.out, by first | exact ow | exact own_drewN ow _, by first | exact bel | exact bl_drewN bel _, by first | exact szr | simpa using szr, by simpa [go_sem] using hb⟩
          case measure => simp [intOf]; omega
        · have jl : jp < i := by omega
          have cj : wr.cell? ⟨b, jp + 1, none⟩ = some (.int .i64 (i : Int)) := (ow.cellAt (jp + 1) (by omega)).trans ((cI_get (by rw [ml]; omega)).trans (by rw [mv_at (by omega)]))
          have cp : wr.cell? ⟨b, jp, none⟩ = some (.int .i64 (gi (dueL (dueK l) i) jp)) := (ow.cellAt jp (by omega)).trans ((cI_get (by rw [ml]; omega)).trans (by rw [mv_pred (by omega)]))
          have fj := ow.frozenAt (jp + 1)
          have fp := ow.frozenAt jp
          obtain ⟨y0, y1⟩ := dueL_bd (d := dueK l) jl
          obtain ⟨y, hy⟩ := Int.eq_ofNat_of_zero_le y0
          have HY := Lib.hid hy
          rw [hy] at cp y1
          have hc : ∀ nq, Calls Try.prog 35 #[.int .i64 (i : Int), .int .i64 (y : Int), .pointer (some ⟨bx, 0, none⟩)] (wr.drewN nq) fun e w' => e = .returned (.int .i64 (cmpI (dueK l (i : Int)) (dueK l (y : Int)))) ∧ ∃ q, w' = (wr.drewN nq).drewN q := fun nq => dueC_any bx Al cl l i y (wr.drewN nq) (h1.bl (bl_drewN bel nq)) hlt (by omega) (by omega) hb
          have p1 : IntKind.i64.wrap (jp : Int) = (jp : Int) := IntWalk.i64_in _ (by omega)
          have p2 : (jp : Int) + 1 < (l.length : Int) := by omega
          have p3 : (jp : Int) < (l.length : Int) := by omega
          have p4 : (0 : Int) < (jp : Int) + 1 := by omega
          have p5 : ((jp : Int) + 1).toNat = jp + 1 := by omega
          have p6 : (0 : Int) ≤ (jp : Int) + 1 := by omega
          clear hdl ml hy y0 y1 h1
          by_cases hs : dueK l (i : Int) < dueK l (y : Int)
          · have hlv := cmpI_lt hs
            go_wp2_with fail
            go_quiet (first | (go_at_call 35; refine Calls.quiet_of (hc _)))
            go_wp2_with fail
            have ow2 := own_drewN ow nq
            have cj2 : (wr.drewN nq).cell? ⟨b, jp + 1, none⟩ = some (.int .i64 (i : Int)) := cj
            have cp2 : (wr.drewN nq).cell? ⟨b, jp, none⟩ = some (.int .i64 (y : Int)) := cp
            have fj2 : (wr.drewN nq).frozen? ⟨b, jp + 1, none⟩ = false := fj
            have fp2 : (wr.drewN nq).frozen? ⟨b, jp, none⟩ = false := fp
            have hb2 : (wr.drewN nq).cell? ⟨bx, 0, none⟩ = some (.slice Al l.length cl) := hb
            have bel2 := bl_drewN bel nq
            have sz2 : w.heap.size ≤ (wr.drewN nq).heap.size := szr
            clear ow cj cp fj fp hb bel szr hc
            generalize wr.drewN nq = wq at *
            have ow3 := ((ow2.stored (jp + 1) (.int .i64 (y : Int))).1.stored jp (.int .i64 (i : Int))).1.drew
            rw [cI_set, cI_set, ← HY.out, mv_step (by rw [dueL_len]; exact jl), HY.out] at ow3
            have bel3 : Below w0.heap.size w0 ((wq.setCell ⟨b, jp + 1, none⟩ (.int .i64 (y : Int))).setCell ⟨b, jp, none⟩ (.int .i64 (i : Int))).drew := bl_drew (bl_set (bl_set bel2 (by simp; omega) _) (by simp; omega) _)
            have hb3 : ((wq.setCell ⟨b, jp + 1, none⟩ (.int .i64 (y : Int))).setCell ⟨b, jp, none⟩ (.int .i64 (i : Int))).drew.cell? ⟨bx, 0, none⟩ = some (.slice Al l.length cl) := cell_setD (cell_setD hb2 hbne.symm) hbne.symm
            have HALL2 := Lib.hid (show ∀ a, jp ≤ a → a < i → dueK l (i : Int) < dueK l (gi (dueL (dueK l) i) a) from fun a h1 h2 => by
              by_cases e : a = jp
              · rw [e, HY.out]; exact hs
              · exact HALL.out a (by omega) h2)
            have sz3 : w.heap.size ≤ ((wq.setCell ⟨b, jp + 1, none⟩ (.int .i64 (y : Int))).setCell ⟨b, jp, none⟩ (.int .i64 (i : Int))).drew.heap.size := by simpa using sz2
            clear hb2 bel2 sz2 ow2 hs
            go_region
            go_wp2
            go_roundw
            case rel => exact ⟨jp, by go_num, by omega, HALL2.out, ow3, bel3, sz3, hb3⟩
            case measure => first | (simp [intOf]; done) | (simp [intOf]; omega)
          · have hlv := cmpI_ge hs
            have HO := Lib.hid (outD_next (d := dueK l) hlt hj HALL.out (.inr (by rw [Nat.add_sub_cancel, HY.out]; exact hs)))
            rw [HO.out] at ow
            have OL := Lib.hid (outD_len (d := dueK l) (show i + 1 ≤ l.length by omega))
            clear hs
            go_wp2_with fail
            go_quiet (first | (go_at_call 35; refine Calls.quiet_of (hc _)))
            go_wp2
            go_roundw
            case rel => exact ⟨i + 1, _, by go_num, by omega, by omega, fun _ => rfl, fun h => by omega, OL.out, by first | exact ow | exact own_drewN ow _, by first | exact bel | exact bl_drewN bel _, by first | exact szr | simpa using szr, by simpa [go_sem] using hb⟩
            case measure => simp [intOf]; omega
    · have hL : L = dueL (dueK l) l.length := by
        by_cases e : i = l.length
        · subst e
          rw [hL1 (by omega), outD_end]
        · exact hL2 (by omega)
      rw [hL] at ow
      have hlt' : ¬ (i : Int) < (l.length : Int) := by omega
      clear hL hL1 hL2 hLl
      go_wp2
      go_end0
      exact ⟨rfl, ow, bel, szr, hb⟩

set_option maxHeartbeats 1600000 in
theorem stable_any (w0 : World) (lo bx : Nat) (Al : Option Addr) (cl : Nat) (l : List (Int × Int × Int)) (A : Option Addr) (c : Nat) (w : World) (h1 : RdJ w0 (.slice Al l.length cl) l) (h8 : l.length ≤ 8) (hlo : w0.heap.size ≤ lo) (bel0 : Below w0.heap.size w0 w)
    (hbx : bx < w.heap.size) (hb0 : w.cell? ⟨bx, 0, none⟩ = some (.slice Al l.length cl)) (hown : w.ownsRow lo 3 1 (.slice A l.length c) l.length (cI (upI 0 l.length))) (hne : (Value.slice A l.length c).ownBlock ≠ some bx) :
    Calls Try.prog 48 #[.slice A l.length c, .int .i64 (l.length : Int), .func (.func 35) #[] #[.pointer (some ⟨bx, 0, none⟩)]] w fun e w' =>
      e = .returned (.tuple #[]) ∧ w'.ownsRow lo 3 1 (.slice A l.length c) l.length (cI (dueL (dueK l) l.length)) ∧ Below w0.heap.size w0 w' ∧ w.heap.size ≤ w'.heap.size ∧ w'.cell? ⟨bx, 0, none⟩ = some (.slice Al l.length cl) := by
  have n1 : ¬ (20 : Int) ≤ (l.length : Int) := by omega
  have n2 : ¬ (20 : Int) < (l.length : Int) := by omega
  have n3 : decide ((20 : Int) ≤ (l.length : Int)) = false := by simp; omega
  have n4 : decide ((20 : Int) < (l.length : Int)) = false := by simp; omega
  have HC := Lib.hid (insC_any w0 lo bx Al cl l A c w h1 h8 hlo bel0 hbx hb0 hown hne)
  clear h1 hb0 hown bel0
  go_enter Try.func48, Try.ntmps48
  go_wp2
  go_loopw [7, 8] (fun a b wr => a = .int .i64 0 ∧ b = .int .i64 20 ∧ wr = w) (fun _ _ _ => 0)
  case atStart => exact ⟨rfl, rfl, rfl⟩
  case round =>
    obtain ⟨rfl, rfl, rfl⟩ := hrel
    go_wp2_with (go_at_call 53; refine HC.out.mono ?_; rintro e w1 ⟨rfl, ow1, bel1, sz1, hb1⟩)
    clear HC
    go_loopw [6] (fun a wr => a = .int .i64 20 ∧ wr = w1) (fun _ _ => 0)
    case atStart => exact ⟨rfl, rfl⟩
    case round =>
      obtain ⟨rfl, rfl⟩ := hrel
      go_wp2
      go_end0
      exact ⟨rfl, ow1, bel1, sz1, hb1⟩
set_option maxHeartbeats 1600000 in
theorem sortSt_any (w0 : World) (lo bx : Nat) (Al : Option Addr) (cl : Nat) (l : List (Int × Int × Int)) (A : Option Addr) (c : Nat) (w : World) (h1 : RdJ w0 (.slice Al l.length cl) l) (h8 : l.length ≤ 8) (hlo : w0.heap.size ≤ lo) (bel0 : Below w0.heap.size w0 w)
    (hbx : bx < w.heap.size) (hb0 : w.cell? ⟨bx, 0, none⟩ = some (.slice Al l.length cl)) (hown : w.ownsRow lo 3 1 (.slice A l.length c) l.length (cI (upI 0 l.length))) (hne : (Value.slice A l.length c).ownBlock ≠ some bx) :
    Calls Try.prog 34 #[.slice A l.length c, .func (.func 35) #[] #[.pointer (some ⟨bx, 0, none⟩)]] w fun e w' =>
      e = .returned (.tuple #[]) ∧ w'.ownsRow lo 3 1 (.slice A l.length c) l.length (cI (dueL (dueK l) l.length)) ∧ Below w0.heap.size w0 w' ∧ w.heap.size ≤ w'.heap.size ∧ w'.cell? ⟨bx, 0, none⟩ = some (.slice Al l.length cl) := by
  have HC := Lib.hid (stable_any w0 lo bx Al cl l A c w h1 h8 hlo bel0 hbx hb0 hown hne)
  clear h1 hb0 hown bel0
  go_enter Try.func34, Try.ntmps34
  go_wp2_with (go_at_call 48; refine HC.out.mono ?_; rintro e w1 ⟨rfl, ow1, bel1, sz1, hb1⟩)
  go_end0
  exact ⟨rfl, ow1, bel1, sz1, hb1⟩

def dueF (l : List (Int × Int × Int)) : List Int := if jobsB l then dueL (dueK l) l.length else []
theorem dueF_len (l : List (Int × Int × Int)) : (dueF l).length ≤ l.length := by
  unfold dueF
  split
  · rw [dueL_len]; exact Nat.le_refl _
  · exact Nat.zero_le _
set_option maxHeartbeats 1600000 in
theorem dueI_any (v : Value) (l : List (Int × Int × Int)) (w : World) (h1 : RdJ w v l) (hl : l.length ≤ 1048576) :
    Calls Try.prog 12 #[v] w (NewRow 3 1 (dueF l).length (cI (dueF l)) w) := by
  obtain ⟨Al, cl, rfl, hc, hm⟩ := h1.form
  cases ho : jobsB l
  · have hF : dueF l = [] := by simp [dueF, ho]
    rw [hF]
    go_enter Try.func12, Try.ntmps12
    go_wp2_with (go_at_call 30; refine (jobsI_any _ l _ (h1.bl (by (repeat' (first | (with_reducible exact Below.refl _ _) | (with_reducible refine bl_alloc ?_ _) | (with_reducible refine bl_drewN ?_ _) | (with_reducible refine bl_drew ?_) | (with_reducible assumption) | (with_reducible refine bl_to ?_ (by assumption)) | (with_reducible refine Below.trans ?_ (by assumption)) | (with_reducible refine Below.trans ?_ (Below.mono (by assumption) ?_)) | (with_reducible refine bl_set ?_ ?_ _) | (simp; done) | (simp; omega) | omega)))) hl).mono ?_; rintro e w1 ⟨rfl, b1⟩; obtain ⟨k1, f1, z1⟩ := bcell b1)
    go_ret
    exact ⟨none, 0, rfl, World.ownsRow_nil _ _ _ _, by (repeat' (first | (with_reducible exact Below.refl _ _) | (with_reducible refine bl_alloc ?_ _) | (with_reducible refine bl_drewN ?_ _) | (with_reducible refine bl_drew ?_) | (with_reducible assumption) | (with_reducible refine bl_to ?_ (by assumption)) | (with_reducible refine Below.trans ?_ (by assumption)) | (with_reducible refine Below.trans ?_ (Below.mono (by assumption) ?_)) | (with_reducible refine bl_set ?_ ?_ _) | (simp; done) | (simp; omega) | omega))⟩
  · have hF : dueF l = dueL (dueK l) l.length := by simp [dueF, ho]
    have h8 : l.length ≤ 8 := by simp [jobsB] at ho; exact ho.1
    rw [hF, dueL_len]
    clear hF
    have hnr := upTo_any l.length hl
    rw [upI_len] at hnr
    go_enter Try.func12, Try.ntmps12
    go_wp2_with (first
      | ((go_at_call 30; refine (jobsI_any _ l _ (h1.bl (by (repeat' (first | (with_reducible exact Below.refl _ _) | (with_reducible refine bl_alloc ?_ _) | (with_reducible refine bl_drewN ?_ _) | (with_reducible refine bl_drew ?_) | (with_reducible assumption) | (with_reducible refine bl_to ?_ (by assumption)) | (with_reducible refine Below.trans ?_ (by assumption)) | (with_reducible refine Below.trans ?_ (Below.mono (by assumption) ?_)) | (with_reducible refine bl_set ?_ ?_ _) | (simp; done) | (simp; omega) | omega)))) hl).mono ?_; rintro e w1 ⟨rfl, b1⟩; obtain ⟨k1, f1, z1⟩ := bcell b1); have x1 : w1.cell? ⟨w.heap.size, 0, none⟩ = some (.slice Al l.length cl) := (k1 _ _ (by (first | omega | (simp; done) | (simp; omega)))).trans (by simp [go_sem]); have y1 : w.heap.size < w1.heap.size := z1 _ (by (first | omega | (simp; done) | (simp; omega))))
      | ((go_at_call 33; refine (hnr _).mono ?_; rintro e w2 ⟨A2, c2, rfl, ow2, b2⟩; obtain ⟨k2, f2, z2⟩ := bcell b2); have x2 : w2.cell? ⟨w.heap.size, 0, none⟩ = some (.slice Al l.length cl) := (k2 _ _ (by (first | omega | (simp; done) | (simp; omega)))).trans x1; have y2 : w.heap.size < w2.heap.size := z2 _ (by (first | omega | (simp; done) | (simp; omega))))
      | (go_at_call 34; refine (sortSt_any w w1.heap.size w.heap.size Al cl l A2 c2 _ h1 h8 (by omega) (by (repeat' (first | (with_reducible exact Below.refl _ _) | (with_reducible refine bl_alloc ?_ _) | (with_reducible refine bl_drewN ?_ _) | (with_reducible refine bl_drew ?_) | (with_reducible assumption) | (with_reducible refine bl_to ?_ (by assumption)) | (with_reducible refine Below.trans ?_ (by assumption)) | (with_reducible refine Below.trans ?_ (Below.mono (by assumption) ?_)) | (with_reducible refine bl_set ?_ ?_ _) | (simp; done) | (simp; omega) | omega))) (by omega) x2 ow2 (fun e => by have := (ow2.lt _ e).1; omega)).mono ?_; rintro e w3 ⟨rfl, ow3, bel3, sz3, hb3⟩))
    go_ret
    exact ⟨A2, c2, rfl, own_lo ow3 (by omega), bel3⟩
end Go.Proofs.Ytloienidakomdaa
