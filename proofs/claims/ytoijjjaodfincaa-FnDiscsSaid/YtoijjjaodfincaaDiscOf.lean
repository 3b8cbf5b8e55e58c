/- DiscOf of the program and of the reference; lengths up to 2^20. -/
import Derived.Test.YtoijjjaodfincaaCyl
import Derived.Test.YtoijjjaodfincaaDisc
import Derived.Test.YtoijjjaodfincaaTurn
import Derived.Deep.DeepCutAuto
import Derived.RegionTactic
namespace Go.Proofs.Ytoijjjaodfincaa
open Go.RowKit

def orF (x t : Int) : Int := bits .or .i64 x (wrap64 (2 ^ t.toNat))
def disN (n : Nat) (l : List (Int × Int)) : Nat → List Int
  | 0 => List.replicate n 0
  | k + 1 => (disN n l k).set (gP l k).2.toNat (orF (gi (disN n l k) (gP l k).2.toNat) (gP l k).1)
theorem disN_len (n : Nat) (l : List (Int × Int)) (k : Nat) : (disN n l k).length = n := by
  induction k with
  | zero => simp [disN]
  | succ k ih => simp [disN, ih]
def dofB (st tr : Int) (l : List (Int × Int)) : Bool := cylB st tr l && decide (tr ≤ 16)
def dofR (st tr : Int) (l : List (Int × Int)) : Int := if dofB st tr l then tr else 0
def dofL (st tr : Int) (l : List (Int × Int)) : List Int := if dofB st tr l then disN st.toNat l l.length else []
theorem dofL_len (st tr : Int) (l : List (Int × Int)) : (dofL st tr l).length ≤ 96 := by
  unfold dofL
  split
  · rename_i h
    simp only [dofB, Bool.and_eq_true] at h
    obtain ⟨⟨s1, s2⟩, _⟩ := cylB_iff h.1
    rw [disN_len]
    omega
  · simp
def NewDiscB (r : Int) (l : List Int) (b : Bool) (w : World) (en : Ending) (w' : World) : Prop :=
  ∃ A c, en = .returned (.tuple #[.agg #[.int .i64 r, .slice A l.length c], .bool b]) ∧ w'.ownsRow w.heap.size 3 1 (.slice A l.length c) l.length (cI l) ∧ Below w.heap.size w w'
/-- a new disc in block D, its slots n noughts -/
def DMade (w1 : World) (n : Nat) (tr : Int) (s : Value) (wx : World) : Prop :=
  ∃ D g, s = .pointer (some ⟨D, 0, none⟩) ∧ w1.heap.size ≤ D ∧ D < wx.heap.size ∧ w1.heap.size ≤ g ∧ g < wx.heap.size ∧ g ≠ D ∧ wx.cell? ⟨D, 0, none⟩ = some (.int .i64 tr) ∧ wx.cell? ⟨D, 1, none⟩ = some (.slice (some ⟨g, 0, none⟩) n n) ∧ wx.ownsRow w1.heap.size 3 1 (.slice (some ⟨g, 0, none⟩) n n) n (cI (List.replicate n 0)) ∧ Below w1.heap.size w1 wx
theorem cell_fad {w : World} {g j b o : Nat} {u v : Value} {O : Obj} (h : w.cell? ⟨b, o, none⟩ = some v) (hb : b < w.heap.size) (hne : b ≠ g) : ((w.setCell ⟨g, j, none⟩ u).alloc O).drew.cell? ⟨b, o, none⟩ = some v :=
  (World.cell?_alloc_lt (w.setCell ⟨g, j, none⟩ u) O ⟨b, o, none⟩ (by simpa using hb)).trans ((World.cell?_of_block (Below.heap_setCell w ⟨g, j, none⟩ u b hne)).trans h)
theorem froz_fad {w : World} {g j b o : Nat} {u : Value} {O : Obj} {c : Bool} (h : w.frozen? ⟨b, o, none⟩ = c) (hb : b < w.heap.size) (hne : b ≠ g) : ((w.setCell ⟨g, j, none⟩ u).alloc O).drew.frozen? ⟨b, o, none⟩ = c :=
  (World.frozen?_of_block (Below.heap_alloc (w.setCell ⟨g, j, none⟩ u) O b (by simpa using hb))).trans ((World.frozen?_of_block (Below.heap_setCell w ⟨g, j, none⟩ u b hne)).trans h)
theorem made_own (W : World) (lo n : Nat) (h : lo ≤ W.heap.size) (hn : n ≤ 96) : (W.alloc (.cells (madeCells #[.int .i64 0] n) 3)).ownsRow lo 3 1 (.slice (some ⟨W.heap.size, 0, none⟩) n n) n (cI (List.replicate n 0)) := by
  have := World.ownsRow_lit (base := lo) (e := 3) (size := 1) W (madeCells #[.int .i64 0] n) n h (by unfold maxLen; omega) (by simpa using size_madeCells _ _)
  simpa [cI, toList_madeCells_one] using this
theorem make_int (n : Nat) (hn : n ≤ 96) (W : World) : (Instr.makeSlice 22 (.int .i64 (n : Int)) (.int .i64 (n : Int))).run Try.prog W = .ok (.slice (some ⟨W.heap.size, 0, none⟩) n n) (W.alloc (.cells (madeCells (Value.int .i64 0).cells (n * 1)) 3)) := by
  obtain ⟨i0, hi0, hz0, hz1, hz2⟩ := info_parts info_int
  have := run_makeSlice (P := Try.prog) (w := W) 22 3 i0 (.int .i64 0) Try.underlying22 hi0 hz0 .i64 .i64 (n : Int) (n : Int) (by omega) (by omega) (by rw [hz1]; simp; omega) (by rw [hz2]; omega) (by omega)
  rw [hz1] at this
  simpa using this

set_option maxHeartbeats 3200000 in
set_option maxRecDepth 100000 in
theorem dofI_any (st tr : Int) (v : Value) (l : List (Int × Int)) (w : World) (h1 : RdP w v l) (hl : l.length ≤ 1048576) :
    Calls Try.prog 57 #[.agg #[.int .i64 st, .int .i64 tr, v]] w (NewDiscB (dofR st tr l) (dofL st tr l) (dofB st tr l) w) := by
  cases ho : dofB st tr l
  · have hR : dofR st tr l = 0 := by simp [dofR, ho]
    have hL : dofL st tr l = [] := by simp [dofL, ho]
    rw [hR, hL]
    clear hR hL
    cases hc : cylB st tr l
    rotate_left
    have ht : 16 < tr := by simp [dofB, hc] at ho; omega
    all_goals
      go_enter Try.func57, Try.ntmps57
      go_wp2_with ((go_at_call 85; refine (cylI_ok _ _ _ l _ (h1.bl (by (repeat' (first | (with_reducible exact Below.refl _ _) | (with_reducible refine bl_alloc ?_ _) | (with_reducible refine bl_drewN ?_ _) | (with_reducible refine bl_drew ?_) | (with_reducible assumption) | (with_reducible refine bl_to ?_ (by assumption)) | (with_reducible refine Below.trans ?_ (by assumption)) | (with_reducible refine Below.trans ?_ (Below.mono (by assumption) ?_)) | (with_reducible refine bl_set ?_ ?_ _) | (simp; done) | (simp; omega) | omega)))) hl).mono ?_; rintro e w1 ⟨rfl, b1⟩; obtain ⟨k1, f1, z1⟩ := bcell b1); have y1 : w.heap.size + 1 < w1.heap.size := z1 _ (by (first | omega | (simp; done) | (simp; omega))); have y0 : w.heap.size < w1.heap.size := z1 _ (by (first | omega | (simp; done) | (simp; omega))))
      exact bodyPost_ret (v := .tuple #[.agg #[.int .i64 0, .slice none 0 0], .bool false]) (by simp [results, Try.results57, go_sem, k1, y1]) rfl ⟨none, 0, rfl, World.ownsRow_nil _ _ _ _, by (repeat' (first | (with_reducible exact Below.refl _ _) | (with_reducible refine bl_alloc ?_ _) | (with_reducible refine bl_drewN ?_ _) | (with_reducible refine bl_drew ?_) | (with_reducible assumption) | (with_reducible refine bl_to ?_ (by assumption)) | (with_reducible refine Below.trans ?_ (by assumption)) | (with_reducible refine Below.trans ?_ (Below.mono (by assumption) ?_)) | (with_reducible refine bl_set ?_ ?_ _) | (simp; done) | (simp; omega) | omega))⟩
  · have hR : dofR st tr l = tr := by simp [dofR, ho]
    have hL : dofL st tr l = disN st.toNat l l.length := by simp [dofL, ho]
    rw [hR, hL]
    clear hR hL
    obtain ⟨hc, ht⟩ : cylB st tr l = true ∧ tr ≤ 16 := by simpa [dofB] using ho
    obtain ⟨⟨s1, s2⟩, ⟨t1, t2⟩, l1, hok⟩ := cylB_iff hc
    obtain ⟨n, rfl⟩ := Int.eq_ofNat_of_zero_le (show 0 ≤ st by omega)
    rw [Int.toNat_natCast]
    have HOK := Lib.hid hok
    have htn : ¬ 16 < tr := by omega
    clear hok
    obtain ⟨A0, c0, rfl, hc0, hm0⟩ := h1.form
    have hmk := make_int n (by omega)
    go_enter Try.func57, Try.ntmps57
    go_wp2_with ((go_at_call 85; refine (cylI_ok _ _ _ l _ (h1.bl (by (repeat' (first | (with_reducible exact Below.refl _ _) | (with_reducible refine bl_alloc ?_ _) | (with_reducible refine bl_drewN ?_ _) | (with_reducible refine bl_drew ?_) | (with_reducible assumption) | (with_reducible refine bl_to ?_ (by assumption)) | (with_reducible refine Below.trans ?_ (by assumption)) | (with_reducible refine Below.trans ?_ (Below.mono (by assumption) ?_)) | (with_reducible refine bl_set ?_ ?_ _) | (simp; done) | (simp; omega) | omega)))) hl).mono ?_; rintro e w1 ⟨rfl, b1⟩; obtain ⟨k1, f1, z1⟩ := bcell b1); have y1 : w.heap.size + 1 < w1.heap.size := z1 _ (by (first | omega | (simp; done) | (simp; omega))); have y0 : w.heap.size < w1.heap.size := z1 _ (by (first | omega | (simp; done) | (simp; omega))))
    have x0 : w1.cell? ⟨w.heap.size, 0, none⟩ = some (.int .i64 (n : Int)) := (k1 _ _ (by (first | omega | (simp; done) | (simp; omega)))).trans (by simp [go_sem])
    have x1 : w1.cell? ⟨w.heap.size, 1, none⟩ = some (.int .i64 tr) := (k1 _ _ (by (first | omega | (simp; done) | (simp; omega)))).trans (by simp [go_sem])
    have x2 : w1.cell? ⟨w.heap.size, 2, none⟩ = some (.slice A0 l.length c0) := (k1 _ _ (by (first | omega | (simp; done) | (simp; omega)))).trans (by simp [go_sem])
    have q0 : w1.cell? ⟨w.heap.size + 1, 0, none⟩ = some (.int .i64 0) := (k1 _ _ (by (first | omega | (simp; done) | (simp; omega)))).trans (by simp [go_sem])
    have q1 : w1.cell? ⟨w.heap.size + 1, 1, none⟩ = some (.slice none 0 0) := (k1 _ _ (by (first | omega | (simp; done) | (simp; omega)))).trans (by simp [go_sem])
    have p0 : w1.frozen? ⟨w.heap.size + 1, 0, none⟩ = false := (f1 _ _ (by (first | omega | (simp; done) | (simp; omega)))).trans (by simp [go_sem])
    have p1 : w1.frozen? ⟨w.heap.size + 1, 1, none⟩ = false := (f1 _ _ (by (first | omega | (simp; done) | (simp; omega)))).trans (by simp [go_sem])
    have bel1 : Below w.heap.size w w1 := by (repeat' (first | (with_reducible exact Below.refl _ _) | (with_reducible refine bl_alloc ?_ _) | (with_reducible refine bl_drewN ?_ _) | (with_reducible refine bl_drew ?_) | (with_reducible assumption) | (with_reducible refine bl_to ?_ (by assumption)) | (with_reducible refine Below.trans ?_ (by assumption)) | (with_reducible refine Below.trans ?_ (Below.mono (by assumption) ?_)) | (with_reducible refine bl_set ?_ ?_ _) | (simp; done) | (simp; omega) | omega))
    clear k1 f1 z1 b1
    go_upto_region 3 with (fail)
    go_cut [4] (fun s wx => DMade w1 n tr s wx)
    case first =>
      go_region
      all_goals
        go_wp2
        go_meet
        first
          | exact ⟨w1.heap.size + 1, w1.heap.size, rfl, by omega, by simp, by omega, by simp; omega, by omega, by simp [go_sem], by simp [go_sem], ((made_own w1 _ n (Nat.le_refl _) (by omega)).alloc _).drew, by (repeat' (first | (with_reducible exact Below.refl _ _) | (with_reducible refine bl_alloc ?_ _) | (with_reducible refine bl_drewN ?_ _) | (with_reducible refine bl_drew ?_) | (with_reducible assumption) | (with_reducible refine bl_to ?_ (by assumption)) | (with_reducible refine Below.trans ?_ (by assumption)) | (with_reducible refine Below.trans ?_ (Below.mono (by assumption) ?_)) | (with_reducible refine bl_set ?_ ?_ _) | (simp; done) | (simp; omega) | omega))⟩
          | exact ⟨w1.heap.size, w1.heap.size + 1, rfl, by omega, by simp; omega, by omega, by simp, by omega, by simp [go_sem], by simp [go_sem], World.ownsRow.drew (by simpa using made_own (w1.alloc (Obj.cells #[Value.int IntKind.i64 tr, Value.slice (some ⟨w1.heap.size + 1, 0, none⟩) n n] 27)) w1.heap.size n (by simp) (by omega)), by (repeat' (first | (with_reducible exact Below.refl _ _) | (with_reducible refine bl_alloc ?_ _) | (with_reducible refine bl_drewN ?_ _) | (with_reducible refine bl_drew ?_) | (with_reducible assumption) | (with_reducible refine bl_to ?_ (by assumption)) | (with_reducible refine Below.trans ?_ (by assumption)) | (with_reducible refine Below.trans ?_ (Below.mono (by assumption) ?_)) | (with_reducible refine bl_set ?_ ?_ _) | (simp; done) | (simp; omega) | omega))⟩
    case rest =>
      obtain ⟨D, g, rfl, D1, D2, g1, g2, gD, d0, d1, ow, bel2⟩ := hcut
      obtain ⟨w2, rfl⟩ : ∃ x : World, x = wc := ⟨_, rfl⟩
      replace x2 := (bel2.cell (p := ⟨w.heap.size, 2, none⟩) (by simp; omega)).trans x2
      replace q0 := (bel2.cell (p := ⟨w.heap.size + 1, 0, none⟩) (by simp; omega)).trans q0
      replace q1 := (bel2.cell (p := ⟨w.heap.size + 1, 1, none⟩) (by simp; omega)).trans q1
      replace p0 := (bel2.frozen (p := ⟨w.heap.size + 1, 0, none⟩) (by simp; omega)).trans p0
      replace p1 := (bel2.frozen (p := ⟨w.heap.size + 1, 1, none⟩) (by simp; omega)).trans p1
      have bel3 : Below w.heap.size w w2 := bl_to bel1 bel2
      have ow0 : w2.ownsRow w1.heap.size 3 1 (.slice (some ⟨g, 0, none⟩) n n) n (cI (disN n l 0)) := ow
      clear x0 x1 bel1 bel2 ow hmk
      go_wp2
      go_loopw [25] (fun i wr => ∃ k : Nat, k ≤ l.length ∧ i = .int .i64 k ∧ Below w.heap.size w wr ∧ wr.ownsRow w1.heap.size 3 1 (.slice (some ⟨g, 0, none⟩) n n) n (cI (disN n l k)) ∧ D < wr.heap.size ∧ g < wr.heap.size ∧ wr.cell? ⟨D, 0, none⟩ = some (.int .i64 tr) ∧ wr.cell? ⟨D, 1, none⟩ = some (.slice (some ⟨g, 0, none⟩) n n) ∧ wr.cell? ⟨w.heap.size + 1, 0, none⟩ = some (.int .i64 0) ∧ wr.cell? ⟨w.heap.size + 1, 1, none⟩ = some (.slice none 0 0) ∧ wr.frozen? ⟨w.heap.size + 1, 0, none⟩ = false ∧ wr.frozen? ⟨w.heap.size + 1, 1, none⟩ = false) (fun i _ => l.length - (intOf i).toNat)
      case atStart => exact ⟨0, Nat.zero_le _, rfl, bel3, ow0, D2, g2, d0, d1, q0, q1, p0, p1⟩
      case round =>
        clear bel3 ow0 D2 g2 d0 d1 q0 q1 p0 p1 x2
        obtain ⟨k, hk, rfl, bel, ow, D2, g2, d0, d1, q0, q1, p0, p1⟩ := hrel
        have DL := Lib.hid (disN_len n l k)
        by_cases hlt : k < l.length
        · have hlt' : (k : Int) < (l.length : Int) := by omega
          obtain ⟨b, o, rfl, hb, e0, e1⟩ := RdP.at_ (h1.bl bel) hlt
          obtain ⟨⟨a1, a2⟩, ⟨a3, a4⟩⟩ := okP_bd HOK.out hlt
          obtain ⟨J, hJ⟩ := Int.eq_ofNat_of_zero_le a3
          rw [hJ] at e1 a4
          have e2 : wr.cell? ⟨g, J, none⟩ = some (.int .i64 (gi (disN n l k) J)) := (ow.cellAt _ (by omega)).trans (cI_get (by rw [DL.out]; omega))
          have e3 := ow.frozenAt J
          clear h1
          go_wp2
          (refine region_tail 11 (by kernel_rfl) (by kernel_rfl) ?_; simp only [List.take_succ_cons, List.take_zero, List.drop_succ_cons, List.drop_zero]; (repeat (first | go_big_quiet_skip | (go_big_quiet_want; go_big_quiet_op; (first | go_big_quiet_on | (apply Exists.intro; refine ⟨?_, ?_⟩; (focus (first | fail | fail)); go_big_quiet_on))))); try refine wpQuiet_nil ?_)
          have st0 := (ow.stored J (.int .i64 (orF (gi (disN n l k) J) (gP l k).1))).1
          rw [cI_set] at st0
          have st := (st0.alloc (Obj.cells #[.int .i64 (gP l k).1, .int .i64 (J : Int)] 63)).drew
          have HD := Lib.hid (show disN n l (k + 1) = (disN n l k).set J (orF (gi (disN n l k) J) (gP l k).1) by rw [disN, hJ]; rfl)
          have bel' : Below w.heap.size w (((wr.setCell ⟨g, J, none⟩ (.int .i64 (orF (gi (disN n l k) J) (gP l k).1))).alloc (Obj.cells #[.int .i64 (gP l k).1, .int .i64 (J : Int)] 63)).drew) := bl_drew (bl_alloc (bl_set bel (by simp; omega) _) _)
          go_wp2
          go_roundw
          case rel => exact ⟨k + 1, by omega, by go_num, bel', by rw [HD.out]; exact st, by simp; omega, by simp; omega, cell_fad d0 D2 (by omega), cell_fad d1 D2 (by omega), cell_fad q0 (by omega) (by omega), cell_fad q1 (by omega) (by omega), froz_fad p0 (by omega) (by omega), froz_fad p1 (by omega) (by omega)⟩
          case measure => simp [intOf]; omega
        · obtain rfl : k = l.length := by omega
          go_wp2
          exact bodyPost_ret (v := .tuple #[.agg #[.int .i64 tr, .slice (some ⟨g, 0, none⟩) (disN n l l.length).length n], .bool true]) (by simp [results, Try.results57, go_sem, q0, q1, d0, d1, DL.out]) rfl ⟨_, _, rfl, by rw [DL.out]; (apply own_lo; repeat' (first | (with_reducible assumption) | (with_reducible apply ownsRow_setCell_below) | (with_reducible apply World.ownsRow.alloc) | (with_reducible apply own_drewN) | (with_reducible apply World.ownsRow.drew) | (with_reducible apply own_bl2) | (simp; done) | (simp; omega) | omega)), by (repeat' (first | (with_reducible exact Below.refl _ _) | (with_reducible refine bl_alloc ?_ _) | (with_reducible refine bl_drewN ?_ _) | (with_reducible refine bl_drew ?_) | (with_reducible assumption) | (with_reducible refine bl_to ?_ (by assumption)) | (with_reducible refine Below.trans ?_ (by assumption)) | (with_reducible refine Below.trans ?_ (Below.mono (by assumption) ?_)) | (with_reducible refine bl_set ?_ ?_ _) | (simp; done) | (simp; omega) | omega))⟩
set_option maxHeartbeats 3200000 in
set_option maxRecDepth 100000 in
theorem dofS_any (st tr : Int) (v : Value) (l : List (Int × Int)) (w : World) (h1 : RdP w v l) (hl : l.length ≤ 1048576) :
    Calls Try.prog 59 #[.agg #[.int .i64 st, .int .i64 tr, v]] w (NewDiscB (dofR st tr l) (dofL st tr l) (dofB st tr l) w) := by
  cases ho : dofB st tr l
  · have hR : dofR st tr l = 0 := by simp [dofR, ho]
    have hL : dofL st tr l = [] := by simp [dofL, ho]
    rw [hR, hL]
    clear hR hL
    cases hc : cylB st tr l
    rotate_left
    have ht : 16 < tr := by simp [dofB, hc] at ho; omega
    all_goals
      go_enter Try.func59, Try.ntmps59
      go_wp2_with ((go_at_call 89; refine (cylS_ok _ _ _ l _ (h1.bl (by (repeat' (first | (with_reducible exact Below.refl _ _) | (with_reducible refine bl_alloc ?_ _) | (with_reducible refine bl_drewN ?_ _) | (with_reducible refine bl_drew ?_) | (with_reducible assumption) | (with_reducible refine bl_to ?_ (by assumption)) | (with_reducible refine Below.trans ?_ (by assumption)) | (with_reducible refine Below.trans ?_ (Below.mono (by assumption) ?_)) | (with_reducible refine bl_set ?_ ?_ _) | (simp; done) | (simp; omega) | omega)))) hl).mono ?_; rintro e w1 ⟨rfl, b1⟩; obtain ⟨k1, f1, z1⟩ := bcell b1); have y1 : w.heap.size + 1 < w1.heap.size := z1 _ (by (first | omega | (simp; done) | (simp; omega))); have y0 : w.heap.size < w1.heap.size := z1 _ (by (first | omega | (simp; done) | (simp; omega))))
      exact bodyPost_ret (v := .tuple #[.agg #[.int .i64 0, .slice none 0 0], .bool false]) (by simp [results, Try.results59, go_sem, k1, y1]) rfl ⟨none, 0, rfl, World.ownsRow_nil _ _ _ _, by (repeat' (first | (with_reducible exact Below.refl _ _) | (with_reducible refine bl_alloc ?_ _) | (with_reducible refine bl_drewN ?_ _) | (with_reducible refine bl_drew ?_) | (with_reducible assumption) | (with_reducible refine bl_to ?_ (by assumption)) | (with_reducible refine Below.trans ?_ (by assumption)) | (with_reducible refine Below.trans ?_ (Below.mono (by assumption) ?_)) | (with_reducible refine bl_set ?_ ?_ _) | (simp; done) | (simp; omega) | omega))⟩
  · have hR : dofR st tr l = tr := by simp [dofR, ho]
    have hL : dofL st tr l = disN st.toNat l l.length := by simp [dofL, ho]
    rw [hR, hL]
    clear hR hL
    obtain ⟨hc, ht⟩ : cylB st tr l = true ∧ tr ≤ 16 := by simpa [dofB] using ho
    obtain ⟨⟨s1, s2⟩, ⟨t1, t2⟩, l1, hok⟩ := cylB_iff hc
    obtain ⟨n, rfl⟩ := Int.eq_ofNat_of_zero_le (show 0 ≤ st by omega)
    rw [Int.toNat_natCast]
    have HOK := Lib.hid hok
    have htn : ¬ 16 < tr := by omega
    clear hok
    obtain ⟨A0, c0, rfl, hc0, hm0⟩ := h1.form
    have hmk := make_int n (by omega)
    go_enter Try.func59, Try.ntmps59
    go_wp2_with ((go_at_call 89; refine (cylS_ok _ _ _ l _ (h1.bl (by (repeat' (first | (with_reducible exact Below.refl _ _) | (with_reducible refine bl_alloc ?_ _) | (with_reducible refine bl_drewN ?_ _) | (with_reducible refine bl_drew ?_) | (with_reducible assumption) | (with_reducible refine bl_to ?_ (by assumption)) | (with_reducible refine Below.trans ?_ (by assumption)) | (with_reducible refine Below.trans ?_ (Below.mono (by assumption) ?_)) | (with_reducible refine bl_set ?_ ?_ _) | (simp; done) | (simp; omega) | omega)))) hl).mono ?_; rintro e w1 ⟨rfl, b1⟩; obtain ⟨k1, f1, z1⟩ := bcell b1); have y1 : w.heap.size + 1 < w1.heap.size := z1 _ (by (first | omega | (simp; done) | (simp; omega))); have y0 : w.heap.size < w1.heap.size := z1 _ (by (first | omega | (simp; done) | (simp; omega))))
    have x0 : w1.cell? ⟨w.heap.size, 0, none⟩ = some (.int .i64 (n : Int)) := (k1 _ _ (by (first | omega | (simp; done) | (simp; omega)))).trans (by simp [go_sem])
    have x1 : w1.cell? ⟨w.heap.size, 1, none⟩ = some (.int .i64 tr) := (k1 _ _ (by (first | omega | (simp; done) | (simp; omega)))).trans (by simp [go_sem])
    have x2 : w1.cell? ⟨w.heap.size, 2, none⟩ = some (.slice A0 l.length c0) := (k1 _ _ (by (first | omega | (simp; done) | (simp; omega)))).trans (by simp [go_sem])
    have q0 : w1.cell? ⟨w.heap.size + 1, 0, none⟩ = some (.int .i64 0) := (k1 _ _ (by (first | omega | (simp; done) | (simp; omega)))).trans (by simp [go_sem])
    have q1 : w1.cell? ⟨w.heap.size + 1, 1, none⟩ = some (.slice none 0 0) := (k1 _ _ (by (first | omega | (simp; done) | (simp; omega)))).trans (by simp [go_sem])
    have p0 : w1.frozen? ⟨w.heap.size + 1, 0, none⟩ = false := (f1 _ _ (by (first | omega | (simp; done) | (simp; omega)))).trans (by simp [go_sem])
    have p1 : w1.frozen? ⟨w.heap.size + 1, 1, none⟩ = false := (f1 _ _ (by (first | omega | (simp; done) | (simp; omega)))).trans (by simp [go_sem])
    have bel1 : Below w.heap.size w w1 := by (repeat' (first | (with_reducible exact Below.refl _ _) | (with_reducible refine bl_alloc ?_ _) | (with_reducible refine bl_drewN ?_ _) | (with_reducible refine bl_drew ?_) | (with_reducible assumption) | (with_reducible refine bl_to ?_ (by assumption)) | (with_reducible refine Below.trans ?_ (by assumption)) | (with_reducible refine Below.trans ?_ (Below.mono (by assumption) ?_)) | (with_reducible refine bl_set ?_ ?_ _) | (simp; done) | (simp; omega) | omega))
    clear k1 f1 z1 b1
    go_upto_region 3 with (fail)
    go_cut [4] (fun s wx => DMade w1 n tr s wx)
    case first =>
      go_region
      all_goals
        go_wp2
        go_meet
        first
          | exact ⟨w1.heap.size + 1, w1.heap.size, rfl, by omega, by simp, by omega, by simp; omega, by omega, by simp [go_sem], by simp [go_sem], ((made_own w1 _ n (Nat.le_refl _) (by omega)).alloc _).drew, by (repeat' (first | (with_reducible exact Below.refl _ _) | (with_reducible refine bl_alloc ?_ _) | (with_reducible refine bl_drewN ?_ _) | (with_reducible refine bl_drew ?_) | (with_reducible assumption) | (with_reducible refine bl_to ?_ (by assumption)) | (with_reducible refine Below.trans ?_ (by assumption)) | (with_reducible refine Below.trans ?_ (Below.mono (by assumption) ?_)) | (with_reducible refine bl_set ?_ ?_ _) | (simp; done) | (simp; omega) | omega))⟩
          | exact ⟨w1.heap.size, w1.heap.size + 1, rfl, by omega, by simp; omega, by omega, by simp, by omega, by simp [go_sem], by simp [go_sem], World.ownsRow.drew (by simpa using made_own (w1.alloc (Obj.cells #[Value.int IntKind.i64 tr, Value.slice (some ⟨w1.heap.size + 1, 0, none⟩) n n] 27)) w1.heap.size n (by simp) (by omega)), by (repeat' (first | (with_reducible exact Below.refl _ _) | (with_reducible refine bl_alloc ?_ _) | (with_reducible refine bl_drewN ?_ _) | (with_reducible refine bl_drew ?_) | (with_reducible assumption) | (with_reducible refine bl_to ?_ (by assumption)) | (with_reducible refine Below.trans ?_ (by assumption)) | (with_reducible refine Below.trans ?_ (Below.mono (by assumption) ?_)) | (with_reducible refine bl_set ?_ ?_ _) | (simp; done) | (simp; omega) | omega))⟩
    case rest =>
      obtain ⟨D, g, rfl, D1, D2, g1, g2, gD, d0, d1, ow, bel2⟩ := hcut
      obtain ⟨w2, rfl⟩ : ∃ x : World, x = wc := ⟨_, rfl⟩
      replace x2 := (bel2.cell (p := ⟨w.heap.size, 2, none⟩) (by simp; omega)).trans x2
      replace q0 := (bel2.cell (p := ⟨w.heap.size + 1, 0, none⟩) (by simp; omega)).trans q0
      replace q1 := (bel2.cell (p := ⟨w.heap.size + 1, 1, none⟩) (by simp; omega)).trans q1
      replace p0 := (bel2.frozen (p := ⟨w.heap.size + 1, 0, none⟩) (by simp; omega)).trans p0
      replace p1 := (bel2.frozen (p := ⟨w.heap.size + 1, 1, none⟩) (by simp; omega)).trans p1
      have bel3 : Below w.heap.size w w2 := bl_to bel1 bel2
      have ow0 : w2.ownsRow w1.heap.size 3 1 (.slice (some ⟨g, 0, none⟩) n n) n (cI (disN n l 0)) := ow
      clear x0 x1 bel1 bel2 ow hmk
      go_wp2
      go_loopw [5] (fun i wr => ∃ k : Nat, k ≤ l.length ∧ i = .int .i64 k ∧ Below w.heap.size w wr ∧ wr.ownsRow w1.heap.size 3 1 (.slice (some ⟨g, 0, none⟩) n n) n (cI (disN n l k)) ∧ D < wr.heap.size ∧ g < wr.heap.size ∧ wr.cell? ⟨D, 0, none⟩ = some (.int .i64 tr) ∧ wr.cell? ⟨D, 1, none⟩ = some (.slice (some ⟨g, 0, none⟩) n n) ∧ wr.cell? ⟨w.heap.size + 1, 0, none⟩ = some (.int .i64 0) ∧ wr.cell? ⟨w.heap.size + 1, 1, none⟩ = some (.slice none 0 0) ∧ wr.frozen? ⟨w.heap.size + 1, 0, none⟩ = false ∧ wr.frozen? ⟨w.heap.size + 1, 1, none⟩ = false ∧ wr.cell? ⟨w.heap.size, 2, none⟩ = some (.slice A0 l.length c0)) (fun i _ => l.length - (intOf i).toNat)
      case atStart => exact ⟨0, Nat.zero_le _, rfl, bel3, ow0, D2, g2, d0, d1, q0, q1, p0, p1, x2⟩
      case round =>
        clear bel3 ow0 D2 g2 d0 d1 q0 q1 p0 p1 x2
        obtain ⟨k, hk, rfl, bel, ow, D2, g2, d0, d1, q0, q1, p0, p1, x2⟩ := hrel
        have DL := Lib.hid (disN_len n l k)
        by_cases hlt : k < l.length
        · have hlt' : (k : Int) < (l.length : Int) := by omega
          obtain ⟨b, o, rfl, hb, e0, e1⟩ := RdP.at_ (h1.bl bel) hlt
          obtain ⟨⟨a1, a2⟩, ⟨a3, a4⟩⟩ := okP_bd HOK.out hlt
          obtain ⟨J, hJ⟩ := Int.eq_ofNat_of_zero_le a3
          rw [hJ] at e1 a4
          have e2 : wr.cell? ⟨g, J, none⟩ = some (.int .i64 (gi (disN n l k) J)) := (ow.cellAt _ (by omega)).trans (cI_get (by rw [DL.out]; omega))
          have e3 := ow.frozenAt J
          clear h1
          go_wp2
          (refine region_tail 17 (by kernel_rfl) (by kernel_rfl) ?_; simp only [List.take_succ_cons, List.take_zero, List.drop_succ_cons, List.drop_zero]; (repeat (first | go_big_quiet_skip | (go_big_quiet_want; go_big_quiet_op; (first | go_big_quiet_on | (apply Exists.intro; refine ⟨?_, ?_⟩; (focus (first | fail | fail)); go_big_quiet_on))))); try refine wpQuiet_nil ?_)
          have st := ((ow.drew).stored J (.int .i64 (orF (gi (disN n l k) J) (gP l k).1))).1
          rw [cI_set] at st
          have HD := Lib.hid (show disN n l (k + 1) = (disN n l k).set J (orF (gi (disN n l k) J) (gP l k).1) by rw [disN, hJ]; rfl)
          have bel' : Below w.heap.size w (wr.drew.setCell ⟨g, J, none⟩ (.int .i64 (orF (gi (disN n l k) J) (gP l k).1))) := bl_set (bl_drew bel) (by simp; omega) _
          go_wp2
          go_roundw
          case rel => exact ⟨k + 1, by omega, by go_num, bel', by rw [HD.out]; exact st, by simp; omega, by simp; omega, cell_far d0 (by omega), cell_far d1 (by omega), cell_far q0 (by omega), cell_far q1 (by omega), froz_far p0 (by omega), froz_far p1 (by omega), cell_far x2 (by omega)⟩
          case measure => simp [intOf]; omega
        · obtain rfl : k = l.length := by omega
          go_wp2
          exact bodyPost_ret (v := .tuple #[.agg #[.int .i64 tr, .slice (some ⟨g, 0, none⟩) (disN n l l.length).length n], .bool true]) (by simp [results, Try.results59, go_sem, q0, q1, d0, d1, DL.out]) rfl ⟨_, _, rfl, by rw [DL.out]; (apply own_lo; repeat' (first | (with_reducible assumption) | (with_reducible apply ownsRow_setCell_below) | (with_reducible apply World.ownsRow.alloc) | (with_reducible apply own_drewN) | (with_reducible apply World.ownsRow.drew) | (with_reducible apply own_bl2) | (simp; done) | (simp; omega) | omega)), by (repeat' (first | (with_reducible exact Below.refl _ _) | (with_reducible refine bl_alloc ?_ _) | (with_reducible refine bl_drewN ?_ _) | (with_reducible refine bl_drew ?_) | (with_reducible assumption) | (with_reducible refine bl_to ?_ (by assumption)) | (with_reducible refine Below.trans ?_ (by assumption)) | (with_reducible refine Below.trans ?_ (Below.mono (by assumption) ?_)) | (with_reducible refine bl_set ?_ ?_ _) | (simp; done) | (simp; omega) | omega))⟩
end Go.Proofs.Ytoijjjaodfincaa
