/- CutStrip of the program and of the reference; lengths up to 2^20. -/
import Derived.Test.YtbcmidencifcoaaGlue0
import Derived.BigRegion
namespace Go.Proofs.Ytbcmidencifcoaa
open Go.RowKit

theorem cell_alloc2 {w1 : World} {o1 o2 : Obj} {b j : Nat} {u : Value} (h : w1.cell? ⟨b, j, none⟩ = some u) (hb : b < w1.heap.size) : ((w1.alloc o1).alloc o2).cell? ⟨b, j, none⟩ = some u :=
  ((bl_alloc (bl_alloc (Below.refl _ _) o1) o2).cell (p := ⟨b, j, none⟩) hb).trans h
theorem frozen_alloc2 {w1 : World} {o1 o2 : Obj} {b j : Nat} (h : w1.frozen? ⟨b, j, none⟩ = false) (hb : b < w1.heap.size) : ((w1.alloc o1).alloc o2).frozen? ⟨b, j, none⟩ = false :=
  ((bl_alloc (bl_alloc (Below.refl _ _) o1) o2).frozen (p := ⟨b, j, none⟩) hb).trans h
/-- two strips in blocks of the call's own, whose slices grow -/
structure Cut2 (w0 : World) (B Da Db : Nat) (wr : World) (n1 : Int) (va : Value) (L1 : List (Int × Int)) (n2 : Int) (vb : Value) (L2 : List (Int × Int)) : Prop where
  a : StripBx w0 B Da wr n1 va L1
  b : StripBx w0 B Db wr n2 vb L2
  ne : Da ≠ Db
  ab : va.ownBlock ≠ some Db
  ba : vb.ownBlock ≠ some Da
  ap : ∀ k, va.ownBlock = some k → vb.ownBlock ≠ some k
section
variable {w0 wr w2 : World} {B Da Db : Nat} {n1 n2 : Int} {va vb v' : Value} {L1 L2 : List (Int × Int)}
theorem Cut2.step (h : Cut2 w0 B Da Db wr n1 va L1 n2 vb L2) (b : Below wr.heap.size wr w2) : Cut2 w0 B Da Db w2 n1 va L1 n2 vb L2 :=
  ⟨h.a.step b, h.b.step b, h.ne, h.ab, h.ba, h.ap⟩
theorem Cut2.swap (h : Cut2 w0 B Da Db wr n1 va L1 n2 vb L2) : Cut2 w0 B Db Da wr n2 vb L2 n1 va L1 :=
  ⟨h.b, h.a, h.ne.symm, h.ba, h.ab, fun k e e2 => h.ap k e2 e⟩
theorem Cut2.appA (h : Cut2 w0 B Da Db wr n1 va L1 n2 vb L2) (y : Int × Int) (gr : wr.grownBy w2 va.ownBlock) (ow : w2.ownsRow B 62 2 v' (L1 ++ [y]).length (cN (L1 ++ [y]))) (at2 : v'.ownBlock = va.ownBlock ∨ v'.ownBlock = some wr.heap.size) :
    Cut2 w0 B Da Db (w2.setCell ⟨Da, 1, none⟩ v') n1 v' (L1 ++ [y]) n2 vb L2 := by
  have dl := h.b.dl
  refine ⟨h.a.app y gr ow at2, (h.b.keep gr h.ab ?_ (fun k e => (h.a.ow.lt k e).1)).set h.ne.symm h.a.hB h.ba, h.ne, ?_, h.ba, ?_⟩
  · cases e : vb.ownBlock with
    | none => exact .inl rfl
    | some k => exact .inr fun e2 => h.ap k e2.symm e
  · intro e
    rcases at2 with q | q
    · exact h.ab (q ▸ e)
    · rw [q] at e
      cases e
      omega
  · intro k e e2
    rcases at2 with q | q
    · exact h.ap k (q ▸ e) e2
    · rw [q] at e
      cases e
      have := (h.b.ow.lt _ e2).2
      omega
theorem Cut2.appB (h : Cut2 w0 B Da Db wr n1 va L1 n2 vb L2) (y : Int × Int) (gr : wr.grownBy w2 vb.ownBlock) (ow : w2.ownsRow B 62 2 v' (L2 ++ [y]).length (cN (L2 ++ [y]))) (at2 : v'.ownBlock = vb.ownBlock ∨ v'.ownBlock = some wr.heap.size) :
    Cut2 w0 B Da Db (w2.setCell ⟨Db, 1, none⟩ v') n1 va L1 n2 v' (L2 ++ [y]) := (h.swap.appA y gr ow at2).swap
theorem Cut2.mk0 {w1 : World} (hD : w1.heap.size = B) : Cut2 ((w1.alloc (.cells #[.int .i64 n1, .slice none 0 0] 34)).alloc (.cells #[.int .i64 n2, .slice none 0 0] 34)) B B (B + 1) ((w1.alloc (.cells #[.int .i64 n1, .slice none 0 0] 34)).alloc (.cells #[.int .i64 n2, .slice none 0 0] 34)) n1 (.slice none 0 0) [] n2 (.slice none 0 0) [] := by
  subst hD
  exact ⟨⟨Below.refl _ _, Nat.le_refl _, by simp <;> omega, by simp [go_sem], by simp [go_sem], by simp [go_sem], World.ownsRow_nil _ _ _ _, by simp [Value.ownBlock]⟩, ⟨Below.refl _ _, by omega, by simp <;> omega, by simp [go_sem], by simp [go_sem], by simp [go_sem], World.ownsRow_nil _ _ _ _, by simp [Value.ownBlock]⟩, by omega, by simp [Value.ownBlock], by simp [Value.ownBlock], by simp [Value.ownBlock]⟩
end
/-- two strips and a bool -/
def NewCut (n1 : Int) (l1 : List (Int × Int)) (n2 : Int) (l2 : List (Int × Int)) (b : Bool) (w : World) (en : Ending) (w' : World) : Prop :=
  ∃ A c A' c', en = .returned (.tuple #[.agg #[.int .i64 n1, .slice A l1.length c], .agg #[.int .i64 n2, .slice A' l2.length c'], .bool b]) ∧ w'.ownsRow w.heap.size 62 2 (.slice A l1.length c) l1.length (cN l1) ∧ w'.ownsRow w.heap.size 62 2 (.slice A' l2.length c') l2.length (cN l2) ∧ (∀ k, (Value.slice A l1.length c).ownBlock = some k → (Value.slice A' l2.length c').ownBlock ≠ some k) ∧ Below w.heap.size w w'
theorem newCut_no (w w' : World) (b : Below w.heap.size w w') : NewCut 0 [] 0 [] false w (.returned (.tuple #[.agg #[.int .i64 0, .slice none 0 0], .agg #[.int .i64 0, .slice none 0 0], .bool false])) w' :=
  ⟨none, 0, none, 0, rfl, World.ownsRow_nil _ _ _ _, World.ownsRow_nil _ _ _ _, by simp [Value.ownBlock], b⟩
set_option maxHeartbeats 6400000 in
set_option maxRecDepth 100000 in
theorem cutI_any (n m : Int) (v : Value) (l : List (Int × Int)) (w : World) (h1 : RdN w v l) (hl : l.length ≤ 1048576) :
    Calls Try.prog 43 #[.agg #[.int .i64 n, v], .int .i64 m] w (NewCut (cutAn n l m) (cutAl n l m) (cutBn n l m) (cutBl n l m) (cutB n l m) w) := by
  cases hs : stripB n l
  · have hB : cutB n l m = false := by simp [cutB, hs]
    rw [cutAn, cutAl, cutBn, cutBl, hB]
    go_enter Try.func43, Try.ntmps43
    go_wp2_with ((go_at_call 23; refine (stripI_ok _ _ l _ (h1.bl (by (repeat' (first | (with_reducible exact Below.refl _ _) | (with_reducible refine bl_alloc ?_ _) | (with_reducible refine bl_drewN ?_ _) | (with_reducible refine bl_drew ?_) | (with_reducible assumption) | (with_reducible refine bl_to ?_ (by assumption)) | (with_reducible refine Below.trans ?_ (by assumption)) | (with_reducible refine Below.trans ?_ (Below.mono (by assumption) ?_)) | (with_reducible refine bl_set ?_ ?_ _) | (simp; done) | (simp; omega) | omega)))) hl).mono ?_; rintro e w1 ⟨rfl, b1⟩; obtain ⟨k1, f1, z1⟩ := bcell b1); have y1 : w.heap.size + 2 < w1.heap.size := z1 _ (by (first | omega | (simp; done) | (simp; omega))); have y2 : w.heap.size + 1 < w1.heap.size := z1 _ (by (first | omega | (simp; done) | (simp; omega))); have y3 : w.heap.size < w1.heap.size := z1 _ (by (first | omega | (simp; done) | (simp; omega))))
    exact bodyPost_ret (v := .tuple #[.agg #[.int .i64 0, .slice none 0 0], .agg #[.int .i64 0, .slice none 0 0], .bool false]) (by simp [results, Try.results43, go_sem, k1, y1, y2]) rfl (newCut_no _ _ (by (repeat' (first | (with_reducible exact Below.refl _ _) | (with_reducible refine bl_alloc ?_ _) | (with_reducible refine bl_drewN ?_ _) | (with_reducible refine bl_drew ?_) | (with_reducible assumption) | (with_reducible refine bl_to ?_ (by assumption)) | (with_reducible refine Below.trans ?_ (by assumption)) | (with_reducible refine Below.trans ?_ (Below.mono (by assumption) ?_)) | (with_reducible refine bl_set ?_ ?_ _) | (simp; done) | (simp; omega) | omega))))
  obtain ⟨⟨s1, s2⟩, t1, _⟩ := stripB_iff hs
  have ll := (tuneB_iff t1).1
  have HOK := Lib.hid (tuneB_iff t1).2
  cases hm : inB m 1 (n - 1)
  · have hB : cutB n l m = false := by simp [cutB, hm]
    rw [cutAn, cutAl, cutBn, cutBl, hB]
    go_enter Try.func43, Try.ntmps43
    go_wp2_with (first | ((go_at_call 23; refine (stripI_ok _ _ l _ (h1.bl (by (repeat' (first | (with_reducible exact Below.refl _ _) | (with_reducible refine bl_alloc ?_ _) | (with_reducible refine bl_drewN ?_ _) | (with_reducible refine bl_drew ?_) | (with_reducible assumption) | (with_reducible refine bl_to ?_ (by assumption)) | (with_reducible refine Below.trans ?_ (by assumption)) | (with_reducible refine Below.trans ?_ (Below.mono (by assumption) ?_)) | (with_reducible refine bl_set ?_ ?_ _) | (simp; done) | (simp; omega) | omega)))) hl).mono ?_; rintro e w1 ⟨rfl, b1⟩; obtain ⟨k1, f1, z1⟩ := bcell b1); have y1 : w.heap.size + 2 < w1.heap.size := z1 _ (by (first | omega | (simp; done) | (simp; omega))); have y2 : w.heap.size + 1 < w1.heap.size := z1 _ (by (first | omega | (simp; done) | (simp; omega))); have y3 : w.heap.size < w1.heap.size := z1 _ (by (first | omega | (simp; done) | (simp; omega))); have x0 : w1.cell? ⟨w.heap.size, 0, none⟩ = some (.int .i64 n) := (k1 _ _ (by (first | omega | (simp; done) | (simp; omega)))).trans (by simp [go_sem])) | (go_at_call 57; refine (within_any _ _ _ _).mono ?_; rintro e w' ⟨rfl, rfl⟩))
    exact bodyPost_ret (v := .tuple #[.agg #[.int .i64 0, .slice none 0 0], .agg #[.int .i64 0, .slice none 0 0], .bool false]) (by simp [results, Try.results43, go_sem, k1, y1, y2]) rfl (newCut_no _ _ (by (repeat' (first | (with_reducible exact Below.refl _ _) | (with_reducible refine bl_alloc ?_ _) | (with_reducible refine bl_drewN ?_ _) | (with_reducible refine bl_drew ?_) | (with_reducible assumption) | (with_reducible refine bl_to ?_ (by assumption)) | (with_reducible refine Below.trans ?_ (by assumption)) | (with_reducible refine Below.trans ?_ (Below.mono (by assumption) ?_)) | (with_reducible refine bl_set ?_ ?_ _) | (simp; done) | (simp; omega) | omega))))
  have hB : cutB n l m = true := by simp [cutB, hs, hm]
  rw [cutAn, cutAl, cutBn, cutBl, hB]
  simp only [if_pos]
  obtain ⟨m1, m2⟩ := inB_iff.1 hm
  obtain ⟨A1, c1, rfl, hc, hmx⟩ := h1.form
  clear hB t1
  go_enter Try.func43, Try.ntmps43
  go_upto_region 3 with (first | ((go_at_call 23; refine (stripI_ok _ _ l _ (h1.bl (by (repeat' (first | (with_reducible exact Below.refl _ _) | (with_reducible refine bl_alloc ?_ _) | (with_reducible refine bl_drewN ?_ _) | (with_reducible refine bl_drew ?_) | (with_reducible assumption) | (with_reducible refine bl_to ?_ (by assumption)) | (with_reducible refine Below.trans ?_ (by assumption)) | (with_reducible refine Below.trans ?_ (Below.mono (by assumption) ?_)) | (with_reducible refine bl_set ?_ ?_ _) | (simp; done) | (simp; omega) | omega)))) hl).mono ?_; rintro e w1 ⟨rfl, b1⟩; obtain ⟨k1, f1, z1⟩ := bcell b1); have y1 : w.heap.size + 2 < w1.heap.size := z1 _ (by (first | omega | (simp; done) | (simp; omega))); have y2 : w.heap.size + 1 < w1.heap.size := z1 _ (by (first | omega | (simp; done) | (simp; omega))); have y3 : w.heap.size < w1.heap.size := z1 _ (by (first | omega | (simp; done) | (simp; omega))); have x0 : w1.cell? ⟨w.heap.size, 0, none⟩ = some (.int .i64 n) := (k1 _ _ (by (first | omega | (simp; done) | (simp; omega)))).trans (by simp [go_sem])) | (go_at_call 57; refine (within_any _ _ _ _).mono ?_; rintro e w' ⟨rfl, rfl⟩))
  have x1 : w1.cell? ⟨w.heap.size, 1, none⟩ = some (.slice A1 l.length c1) := (k1 _ _ (by (first | omega | (simp; done) | (simp; omega)))).trans (by simp [go_sem])
  have q20 : w1.cell? ⟨w.heap.size + 2, 0, none⟩ = some (.int .i64 0) := (k1 _ _ (by (first | omega | (simp; done) | (simp; omega)))).trans (by simp [go_sem])
  have p20 : w1.frozen? ⟨w.heap.size + 2, 0, none⟩ = false := (f1 _ _ (by (first | omega | (simp; done) | (simp; omega)))).trans (by simp [go_sem])
  have q21 : w1.cell? ⟨w.heap.size + 2, 1, none⟩ = some (.slice none 0 0) := (k1 _ _ (by (first | omega | (simp; done) | (simp; omega)))).trans (by simp [go_sem])
  have p21 : w1.frozen? ⟨w.heap.size + 2, 1, none⟩ = false := (f1 _ _ (by (first | omega | (simp; done) | (simp; omega)))).trans (by simp [go_sem])
  have q10 : w1.cell? ⟨w.heap.size + 1, 0, none⟩ = some (.int .i64 0) := (k1 _ _ (by (first | omega | (simp; done) | (simp; omega)))).trans (by simp [go_sem])
  have p10 : w1.frozen? ⟨w.heap.size + 1, 0, none⟩ = false := (f1 _ _ (by (first | omega | (simp; done) | (simp; omega)))).trans (by simp [go_sem])
  have q11 : w1.cell? ⟨w.heap.size + 1, 1, none⟩ = some (.slice none 0 0) := (k1 _ _ (by (first | omega | (simp; done) | (simp; omega)))).trans (by simp [go_sem])
  have p11 : w1.frozen? ⟨w.heap.size + 1, 1, none⟩ = false := (f1 _ _ (by (first | omega | (simp; done) | (simp; omega)))).trans (by simp [go_sem])
  have bel1 : Below w.heap.size w w1 := by (repeat' (first | (with_reducible exact Below.refl _ _) | (with_reducible refine bl_alloc ?_ _) | (with_reducible refine bl_drewN ?_ _) | (with_reducible refine bl_drew ?_) | (with_reducible assumption) | (with_reducible refine bl_to ?_ (by assumption)) | (with_reducible refine Below.trans ?_ (by assumption)) | (with_reducible refine Below.trans ?_ (Below.mono (by assumption) ?_)) | (with_reducible refine bl_set ?_ ?_ _) | (simp; done) | (simp; omega) | omega))
  have hwm : IntKind.i64.wrap (n - m) = n - m := IntWalk.i64_in _ (by omega)
  have XQ := Lib.hid (And.intro q20 (And.intro p20 (And.intro q21 (And.intro p21 (And.intro q10 (And.intro p10 (And.intro q11 p11)))))))
  clear k1 f1 z1 b1 q20 p20 q21 p21 q10 p10 q11 p11
  have S0 : Cut2 ((w1.alloc (.cells #[.int .i64 m, .slice none 0 0] 34)).alloc (.cells #[.int .i64 (n - m), .slice none 0 0] 34)) w1.heap.size w1.heap.size (w1.heap.size + 1) ((w1.alloc (.cells #[.int .i64 m, .slice none 0 0] 34)).alloc (.cells #[.int .i64 (n - m), .slice none 0 0] 34)) m (.slice none 0 0) (cuA l m 0) (n - m) (.slice none 0 0) (cuB l m 0) := Cut2.mk0 rfl
  go_wp2

  clear hwm
  go_loopw [34] (fun i wr => ∃ (k : Nat) (va vb : Value), k ≤ l.length ∧ i = .int .i64 k ∧ Cut2 ((w1.alloc (.cells #[.int .i64 m, .slice none 0 0] 34)).alloc (.cells #[.int .i64 (n - m), .slice none 0 0] 34)) w1.heap.size w1.heap.size (w1.heap.size + 1) wr m va (cuA l m k) (n - m) vb (cuB l m k)) (fun i _ => l.length - (intOf i).toNat)
  case atStart => exact ⟨0, _, _, Nat.zero_le _, rfl, S0⟩
  case round =>
    clear S0
    obtain ⟨k, va, vb, hk, rfl, h⟩ := hrel
    have belr : Below w.heap.size w wr := (bl_alloc (bl_alloc bel1 _) _).trans (h.a.bel.mono (by omega))
    have hda := h.a.dl
    have hdb := h.b.dl
    have hww : ((w1.alloc (.cells #[.int .i64 m, .slice none 0 0] 34)).alloc (.cells #[.int .i64 (n - m), .slice none 0 0] 34)).heap.size = w1.heap.size + 2 := by simp
    have cl := cu_len l m k
    have X0 := (h.a.bel.cell (p := ⟨w.heap.size, 0, none⟩) (by (first | omega | (simp; done) | (simp; omega)))).trans (show _ = some (Value.int .i64 n) by simp [go_sem, x0, y3])
    have X1 := (h.a.bel.cell (p := ⟨w.heap.size, 1, none⟩) (by (first | omega | (simp; done) | (simp; omega)))).trans (show _ = some (Value.slice A1 l.length c1) by simp [go_sem, x1, y3])
    have hyr : w.heap.size < wr.heap.size := by omega
    clear hww x0 x1
    by_cases hlt : k < l.length
    · have hlt' : (k : Int) < (l.length : Int) := by omega
      have k0 : (0 : Int) ≤ (k : Int) := by omega
      obtain ⟨b, o, rfl, hb, e0, e1⟩ := RdN.at_ (h1.bl belr) hlt
      obtain ⟨⟨x1, x2⟩, ⟨x3, x4⟩⟩ := okN_bd HOK.out hlt
      clear h1
      by_cases hs : (gN l k).1 < m
      · have hA := Lib.hid (cuA_yes hs)
        have hC := Lib.hid (cuB_yes hs)
        have hst := h.step (bl_alloc (bl_alloc (Below.refl _ _) (Obj.cells #[.int .i64 (gN l k).1, .int .i64 (gN l k).2] 62)) (Obj.cells #[.int .i64 (gN l k).1, .int .i64 (gN l k).2] 62))
        have dv := h.a.dv
        go_wp2_with (at_builtin; refine wpList_app_N _ rfl _ _ rfl w1.heap.size _ _ rfl hst.a.ow (wr.heap.size + 1) (gN l k).1 (gN l k).2 rfl ?_ ?_ (by omega) (by simp; omega) ?_; rotate_left 2; intro v2 w2' ow2 bb gr at2; obtain ⟨A2, n2, c2, rfl⟩ := own_form3 ow2; obtain ⟨cD, fD⟩ := hst.a.cellAt gr)
        · go_roundw
          case rel => exact ⟨k + 1, _, _, by omega, by go_num, by rw [hA.out, hC.out]; exact hst.appA (_, _) gr ow2 at2⟩
          case measure => simp [intOf]; omega
        all_goals (simp [go_sem]; done)
      · have hA := Lib.hid (cuA_no hs)
        have hC := Lib.hid (cuB_no hs)
        have hst := h.step (bl_alloc (bl_alloc (Below.refl _ _) (Obj.cells #[.int .i64 (gN l k).1, .int .i64 (gN l k).2] 62)) (Obj.cells #[.int .i64 ((gN l k).1 - m), .int .i64 (gN l k).2] 62))
        have dv := h.b.dv
        go_wp2_with (at_builtin; refine wpList_app_N _ rfl _ _ rfl w1.heap.size _ _ rfl hst.b.ow (wr.heap.size + 1) ((gN l k).1 - m) (gN l k).2 rfl ?_ ?_ (by omega) (by simp; omega) ?_; rotate_left 2; intro v2 w2' ow2 bb gr at2; obtain ⟨A2, n2, c2, rfl⟩ := own_form3 ow2; obtain ⟨cD, fD⟩ := hst.b.cellAt gr)
        · go_roundw
          case rel => exact ⟨k + 1, _, _, by omega, by go_num, by rw [hA.out, hC.out]; exact hst.appB (_, _) gr ow2 at2⟩
          case measure => simp [intOf]; omega
        all_goals (simp [go_sem]; done)
    · have hlt' : ¬ (k : Int) < (l.length : Int) := by omega
      obtain rfl : k = l.length := by omega
      obtain ⟨q20, p20, q21, p21, q10, p10, q11, p11⟩ := XQ.out
      have Q20 := (h.a.bel.cell (p := ⟨w.heap.size + 2, 0, none⟩) (by (first | omega | (simp; done) | (simp; omega)))).trans (cell_alloc2 q20 y1)
      have P20 := (h.a.bel.frozen (p := ⟨w.heap.size + 2, 0, none⟩) (by (first | omega | (simp; done) | (simp; omega)))).trans (frozen_alloc2 p20 y1)
      have Q21 := (h.a.bel.cell (p := ⟨w.heap.size + 2, 1, none⟩) (by (first | omega | (simp; done) | (simp; omega)))).trans (cell_alloc2 q21 y1)
      have P21 := (h.a.bel.frozen (p := ⟨w.heap.size + 2, 1, none⟩) (by (first | omega | (simp; done) | (simp; omega)))).trans (frozen_alloc2 p21 y1)
      have Q10 := (h.a.bel.cell (p := ⟨w.heap.size + 1, 0, none⟩) (by (first | omega | (simp; done) | (simp; omega)))).trans (cell_alloc2 q10 y2)
      have P10 := (h.a.bel.frozen (p := ⟨w.heap.size + 1, 0, none⟩) (by (first | omega | (simp; done) | (simp; omega)))).trans (frozen_alloc2 p10 y2)
      have Q11 := (h.a.bel.cell (p := ⟨w.heap.size + 1, 1, none⟩) (by (first | omega | (simp; done) | (simp; omega)))).trans (cell_alloc2 q11 y2)
      have P11 := (h.a.bel.frozen (p := ⟨w.heap.size + 1, 1, none⟩) (by (first | omega | (simp; done) | (simp; omega)))).trans (frozen_alloc2 p11 y2)
      have T0 := h.a.d0
      have T1 := h.a.dv
      have U0 := h.b.d0
      have U1 := h.b.dv
      have owA := h.a.ow
      have owB := h.b.ow
      have hap := h.ap
      obtain ⟨Aa, na, ca, rfl, ea⟩ := own_formL owA
      obtain ⟨Ab, nb, cb, rfl, eb⟩ := own_formL owB
      have EA := Lib.hid ea
      have EB := Lib.hid eb
      have HAP := Lib.hid hap
      clear h ea eb hap h1 q20 p20 q21 p21 q10 p10 q11 p11
      go_wp2
      go_region
      all_goals
        go_wp2
        exact bodyPost_ret (v := .tuple #[.agg #[.int .i64 m, .slice Aa na ca], .agg #[.int .i64 (n - m), .slice Ab nb cb], .bool true]) (by simp [results, Try.results43, go_sem, Q20, Q21, Q10, Q11, T0, T1, U0, U1]) rfl (by have ea := EA.out; have eb := EB.out; subst ea; subst eb; exact ⟨Aa, ca, Ab, cb, rfl, own_lo (by repeat' (first | exact owA | apply ownsRow_setCell_below | (simp; done) | (simp; omega) | omega)) (by omega), own_lo (by repeat' (first | exact owB | apply ownsRow_setCell_below | (simp; done) | (simp; omega) | omega)) (by omega), HAP.out, by (repeat' (first | (with_reducible exact Below.refl _ _) | (with_reducible refine bl_alloc ?_ _) | (with_reducible refine bl_drewN ?_ _) | (with_reducible refine bl_drew ?_) | (with_reducible assumption) | (with_reducible refine bl_to ?_ (by assumption)) | (with_reducible refine Below.trans ?_ (by assumption)) | (with_reducible refine Below.trans ?_ (Below.mono (by assumption) ?_)) | (with_reducible refine bl_set ?_ ?_ _) | (simp; done) | (simp; omega) | omega))⟩)
set_option maxHeartbeats 6400000 in
set_option maxRecDepth 100000 in
theorem cutS_any (n m : Int) (v : Value) (l : List (Int × Int)) (w : World) (h1 : RdN w v l) (hl : l.length ≤ 1048576) :
    Calls Try.prog 42 #[.agg #[.int .i64 n, v], .int .i64 m] w (NewCut (cutAn n l m) (cutAl n l m) (cutBn n l m) (cutBl n l m) (cutB n l m) w) := by
  cases hs : stripB n l
  · have hB : cutB n l m = false := by simp [cutB, hs]
    rw [cutAn, cutAl, cutBn, cutBl, hB]
    go_enter Try.func42, Try.ntmps42
    go_wp2_with ((go_at_call 21; refine (stripS_ok _ _ l _ (h1.bl (by (repeat' (first | (with_reducible exact Below.refl _ _) | (with_reducible refine bl_alloc ?_ _) | (with_reducible refine bl_drewN ?_ _) | (with_reducible refine bl_drew ?_) | (with_reducible assumption) | (with_reducible refine bl_to ?_ (by assumption)) | (with_reducible refine Below.trans ?_ (by assumption)) | (with_reducible refine Below.trans ?_ (Below.mono (by assumption) ?_)) | (with_reducible refine bl_set ?_ ?_ _) | (simp; done) | (simp; omega) | omega)))) hl).mono ?_; rintro e w1 ⟨rfl, b1⟩; obtain ⟨k1, f1, z1⟩ := bcell b1); have y1 : w.heap.size + 2 < w1.heap.size := z1 _ (by (first | omega | (simp; done) | (simp; omega))); have y2 : w.heap.size + 1 < w1.heap.size := z1 _ (by (first | omega | (simp; done) | (simp; omega))); have y3 : w.heap.size < w1.heap.size := z1 _ (by (first | omega | (simp; done) | (simp; omega))))
    exact bodyPost_ret (v := .tuple #[.agg #[.int .i64 0, .slice none 0 0], .agg #[.int .i64 0, .slice none 0 0], .bool false]) (by simp [results, Try.results42, go_sem, k1, y1, y2]) rfl (newCut_no _ _ (by (repeat' (first | (with_reducible exact Below.refl _ _) | (with_reducible refine bl_alloc ?_ _) | (with_reducible refine bl_drewN ?_ _) | (with_reducible refine bl_drew ?_) | (with_reducible assumption) | (with_reducible refine bl_to ?_ (by assumption)) | (with_reducible refine Below.trans ?_ (by assumption)) | (with_reducible refine Below.trans ?_ (Below.mono (by assumption) ?_)) | (with_reducible refine bl_set ?_ ?_ _) | (simp; done) | (simp; omega) | omega))))
  obtain ⟨⟨s1, s2⟩, t1, _⟩ := stripB_iff hs
  have ll := (tuneB_iff t1).1
  have HOK := Lib.hid (tuneB_iff t1).2
  cases hm : inB m 1 (n - 1)
  · have hB : cutB n l m = false := by simp [cutB, hm]
    rw [cutAn, cutAl, cutBn, cutBl, hB]
    go_enter Try.func42, Try.ntmps42
    go_wp2_with (first | ((go_at_call 21; refine (stripS_ok _ _ l _ (h1.bl (by (repeat' (first | (with_reducible exact Below.refl _ _) | (with_reducible refine bl_alloc ?_ _) | (with_reducible refine bl_drewN ?_ _) | (with_reducible refine bl_drew ?_) | (with_reducible assumption) | (with_reducible refine bl_to ?_ (by assumption)) | (with_reducible refine Below.trans ?_ (by assumption)) | (with_reducible refine Below.trans ?_ (Below.mono (by assumption) ?_)) | (with_reducible refine bl_set ?_ ?_ _) | (simp; done) | (simp; omega) | omega)))) hl).mono ?_; rintro e w1 ⟨rfl, b1⟩; obtain ⟨k1, f1, z1⟩ := bcell b1); have y1 : w.heap.size + 2 < w1.heap.size := z1 _ (by (first | omega | (simp; done) | (simp; omega))); have y2 : w.heap.size + 1 < w1.heap.size := z1 _ (by (first | omega | (simp; done) | (simp; omega))); have y3 : w.heap.size < w1.heap.size := z1 _ (by (first | omega | (simp; done) | (simp; omega))); have x0 : w1.cell? ⟨w.heap.size, 0, none⟩ = some (.int .i64 n) := (k1 _ _ (by (first | omega | (simp; done) | (simp; omega)))).trans (by simp [go_sem])) | (go_at_call 56; refine (l01In_any _ _ _ _).mono ?_; rintro e w' ⟨rfl, rfl⟩))
    exact bodyPost_ret (v := .tuple #[.agg #[.int .i64 0, .slice none 0 0], .agg #[.int .i64 0, .slice none 0 0], .bool false]) (by simp [results, Try.results42, go_sem, k1, y1, y2]) rfl (newCut_no _ _ (by (repeat' (first | (with_reducible exact Below.refl _ _) | (with_reducible refine bl_alloc ?_ _) | (with_reducible refine bl_drewN ?_ _) | (with_reducible refine bl_drew ?_) | (with_reducible assumption) | (with_reducible refine bl_to ?_ (by assumption)) | (with_reducible refine Below.trans ?_ (by assumption)) | (with_reducible refine Below.trans ?_ (Below.mono (by assumption) ?_)) | (with_reducible refine bl_set ?_ ?_ _) | (simp; done) | (simp; omega) | omega))))
  have hB : cutB n l m = true := by simp [cutB, hs, hm]
  rw [cutAn, cutAl, cutBn, cutBl, hB]
  simp only [if_pos]
  obtain ⟨m1, m2⟩ := inB_iff.1 hm
  obtain ⟨A1, c1, rfl, hc, hmx⟩ := h1.form
  clear hB t1
  go_enter Try.func42, Try.ntmps42
  go_upto_region 3 with (first | ((go_at_call 21; refine (stripS_ok _ _ l _ (h1.bl (by (repeat' (first | (with_reducible exact Below.refl _ _) | (with_reducible refine bl_alloc ?_ _) | (with_reducible refine bl_drewN ?_ _) | (with_reducible refine bl_drew ?_) | (with_reducible assumption) | (with_reducible refine bl_to ?_ (by assumption)) | (with_reducible refine Below.trans ?_ (by assumption)) | (with_reducible refine Below.trans ?_ (Below.mono (by assumption) ?_)) | (with_reducible refine bl_set ?_ ?_ _) | (simp; done) | (simp; omega) | omega)))) hl).mono ?_; rintro e w1 ⟨rfl, b1⟩; obtain ⟨k1, f1, z1⟩ := bcell b1); have y1 : w.heap.size + 2 < w1.heap.size := z1 _ (by (first | omega | (simp; done) | (simp; omega))); have y2 : w.heap.size + 1 < w1.heap.size := z1 _ (by (first | omega | (simp; done) | (simp; omega))); have y3 : w.heap.size < w1.heap.size := z1 _ (by (first | omega | (simp; done) | (simp; omega))); have x0 : w1.cell? ⟨w.heap.size, 0, none⟩ = some (.int .i64 n) := (k1 _ _ (by (first | omega | (simp; done) | (simp; omega)))).trans (by simp [go_sem])) | (go_at_call 56; refine (l01In_any _ _ _ _).mono ?_; rintro e w' ⟨rfl, rfl⟩))
  have x1 : w1.cell? ⟨w.heap.size, 1, none⟩ = some (.slice A1 l.length c1) := (k1 _ _ (by (first | omega | (simp; done) | (simp; omega)))).trans (by simp [go_sem])
  have q20 : w1.cell? ⟨w.heap.size + 2, 0, none⟩ = some (.int .i64 0) := (k1 _ _ (by (first | omega | (simp; done) | (simp; omega)))).trans (by simp [go_sem])
  have p20 : w1.frozen? ⟨w.heap.size + 2, 0, none⟩ = false := (f1 _ _ (by (first | omega | (simp; done) | (simp; omega)))).trans (by simp [go_sem])
  have q21 : w1.cell? ⟨w.heap.size + 2, 1, none⟩ = some (.slice none 0 0) := (k1 _ _ (by (first | omega | (simp; done) | (simp; omega)))).trans (by simp [go_sem])
  have p21 : w1.frozen? ⟨w.heap.size + 2, 1, none⟩ = false := (f1 _ _ (by (first | omega | (simp; done) | (simp; omega)))).trans (by simp [go_sem])
  have q10 : w1.cell? ⟨w.heap.size + 1, 0, none⟩ = some (.int .i64 0) := (k1 _ _ (by (first | omega | (simp; done) | (simp; omega)))).trans (by simp [go_sem])
  have p10 : w1.frozen? ⟨w.heap.size + 1, 0, none⟩ = false := (f1 _ _ (by (first | omega | (simp; done) | (simp; omega)))).trans (by simp [go_sem])
  have q11 : w1.cell? ⟨w.heap.size + 1, 1, none⟩ = some (.slice none 0 0) := (k1 _ _ (by (first | omega | (simp; done) | (simp; omega)))).trans (by simp [go_sem])
  have p11 : w1.frozen? ⟨w.heap.size + 1, 1, none⟩ = false := (f1 _ _ (by (first | omega | (simp; done) | (simp; omega)))).trans (by simp [go_sem])
  have bel1 : Below w.heap.size w w1 := by (repeat' (first | (with_reducible exact Below.refl _ _) | (with_reducible refine bl_alloc ?_ _) | (with_reducible refine bl_drewN ?_ _) | (with_reducible refine bl_drew ?_) | (with_reducible assumption) | (with_reducible refine bl_to ?_ (by assumption)) | (with_reducible refine Below.trans ?_ (by assumption)) | (with_reducible refine Below.trans ?_ (Below.mono (by assumption) ?_)) | (with_reducible refine bl_set ?_ ?_ _) | (simp; done) | (simp; omega) | omega))
  have hwm : IntKind.i64.wrap (n - m) = n - m := IntWalk.i64_in _ (by omega)
  have XQ := Lib.hid (And.intro q20 (And.intro p20 (And.intro q21 (And.intro p21 (And.intro q10 (And.intro p10 (And.intro q11 p11)))))))
  clear k1 f1 z1 b1 q20 p20 q21 p21 q10 p10 q11 p11
  have S0 : Cut2 ((w1.alloc (.cells #[.int .i64 m, .slice none 0 0] 34)).alloc (.cells #[.int .i64 (n - m), .slice none 0 0] 34)) w1.heap.size w1.heap.size (w1.heap.size + 1) ((w1.alloc (.cells #[.int .i64 m, .slice none 0 0] 34)).alloc (.cells #[.int .i64 (n - m), .slice none 0 0] 34)) m (.slice none 0 0) (cuA l m 0) (n - m) (.slice none 0 0) (cuB l m 0) := Cut2.mk0 rfl
  go_wp2

  clear hwm
  go_loopw [9] (fun i wr => ∃ (k : Nat) (va vb : Value), k ≤ l.length ∧ i = .int .i64 k ∧ Cut2 ((w1.alloc (.cells #[.int .i64 m, .slice none 0 0] 34)).alloc (.cells #[.int .i64 (n - m), .slice none 0 0] 34)) w1.heap.size w1.heap.size (w1.heap.size + 1) wr m va (cuA l m k) (n - m) vb (cuB l m k)) (fun i _ => l.length - (intOf i).toNat)
  case atStart => exact ⟨0, _, _, Nat.zero_le _, rfl, S0⟩
  case round =>
    clear S0
    obtain ⟨k, va, vb, hk, rfl, h⟩ := hrel
    have belr : Below w.heap.size w wr := (bl_alloc (bl_alloc bel1 _) _).trans (h.a.bel.mono (by omega))
    have hda := h.a.dl
    have hdb := h.b.dl
    have hww : ((w1.alloc (.cells #[.int .i64 m, .slice none 0 0] 34)).alloc (.cells #[.int .i64 (n - m), .slice none 0 0] 34)).heap.size = w1.heap.size + 2 := by simp
    have cl := cu_len l m k
    have X0 := (h.a.bel.cell (p := ⟨w.heap.size, 0, none⟩) (by (first | omega | (simp; done) | (simp; omega)))).trans (show _ = some (Value.int .i64 n) by simp [go_sem, x0, y3])
    have X1 := (h.a.bel.cell (p := ⟨w.heap.size, 1, none⟩) (by (first | omega | (simp; done) | (simp; omega)))).trans (show _ = some (Value.slice A1 l.length c1) by simp [go_sem, x1, y3])
    have hyr : w.heap.size < wr.heap.size := by omega
    clear hww x0 x1
    by_cases hlt : k < l.length
    · have hlt' : (k : Int) < (l.length : Int) := by omega
      have k0 : (0 : Int) ≤ (k : Int) := by omega
      obtain ⟨b, o, rfl, hb, e0, e1⟩ := RdN.at_ (h1.bl belr) hlt
      obtain ⟨⟨x1, x2⟩, ⟨x3, x4⟩⟩ := okN_bd HOK.out hlt
      clear h1
      by_cases hs : (gN l k).1 < m
      · have hA := Lib.hid (cuA_yes hs)
        have hC := Lib.hid (cuB_yes hs)
        have hst := h.step (bl_alloc (bl_alloc (Below.refl _ _) (Obj.cells #[.int .i64 (gN l k).1, .int .i64 (gN l k).2] 62)) (Obj.cells #[.int .i64 (gN l k).1, .int .i64 (gN l k).2] 62))
        have dv := h.a.dv
        go_wp2_with (at_builtin; refine wpList_app_N _ rfl _ _ rfl w1.heap.size _ _ rfl hst.a.ow (wr.heap.size + 1) (gN l k).1 (gN l k).2 rfl ?_ ?_ (by omega) (by simp; omega) ?_; rotate_left 2; intro v2 w2' ow2 bb gr at2; obtain ⟨A2, n2, c2, rfl⟩ := own_form3 ow2; obtain ⟨cD, fD⟩ := hst.a.cellAt gr)
        · go_roundw
          case rel => exact ⟨k + 1, _, _, by omega, by go_num, by rw [hA.out, hC.out]; exact hst.appA (_, _) gr ow2 at2⟩
          case measure => simp [intOf]; omega
        all_goals (simp [go_sem]; done)
      · have hA := Lib.hid (cuA_no hs)
        have hC := Lib.hid (cuB_no hs)
        have hst := h.step (bl_alloc (bl_alloc (Below.refl _ _) (Obj.cells #[.int .i64 (gN l k).1, .int .i64 (gN l k).2] 62)) (Obj.cells #[.int .i64 ((gN l k).1 - m), .int .i64 (gN l k).2] 62))
        have dv := h.b.dv
        go_wp2_with (at_builtin; refine wpList_app_N _ rfl _ _ rfl w1.heap.size _ _ rfl hst.b.ow (wr.heap.size + 1) ((gN l k).1 - m) (gN l k).2 rfl ?_ ?_ (by omega) (by simp; omega) ?_; rotate_left 2; intro v2 w2' ow2 bb gr at2; obtain ⟨A2, n2, c2, rfl⟩ := own_form3 ow2; obtain ⟨cD, fD⟩ := hst.b.cellAt gr)
        · go_roundw
          case rel => exact ⟨k + 1, _, _, by omega, by go_num, by rw [hA.out, hC.out]; exact hst.appB (_, _) gr ow2 at2⟩
          case measure => simp [intOf]; omega
        all_goals (simp [go_sem]; done)
    · have hlt' : ¬ (k : Int) < (l.length : Int) := by omega
      obtain rfl : k = l.length := by omega
      obtain ⟨q20, p20, q21, p21, q10, p10, q11, p11⟩ := XQ.out
      have Q20 := (h.a.bel.cell (p := ⟨w.heap.size + 2, 0, none⟩) (by (first | omega | (simp; done) | (simp; omega)))).trans (cell_alloc2 q20 y1)
      have P20 := (h.a.bel.frozen (p := ⟨w.heap.size + 2, 0, none⟩) (by (first | omega | (simp; done) | (simp; omega)))).trans (frozen_alloc2 p20 y1)
      have Q21 := (h.a.bel.cell (p := ⟨w.heap.size + 2, 1, none⟩) (by (first | omega | (simp; done) | (simp; omega)))).trans (cell_alloc2 q21 y1)
      have P21 := (h.a.bel.frozen (p := ⟨w.heap.size + 2, 1, none⟩) (by (first | omega | (simp; done) | (simp; omega)))).trans (frozen_alloc2 p21 y1)
      have Q10 := (h.a.bel.cell (p := ⟨w.heap.size + 1, 0, none⟩) (by (first | omega | (simp; done) | (simp; omega)))).trans (cell_alloc2 q10 y2)
      have P10 := (h.a.bel.frozen (p := ⟨w.heap.size + 1, 0, none⟩) (by (first | omega | (simp; done) | (simp; omega)))).trans (frozen_alloc2 p10 y2)
      have Q11 := (h.a.bel.cell (p := ⟨w.heap.size + 1, 1, none⟩) (by (first | omega | (simp; done) | (simp; omega)))).trans (cell_alloc2 q11 y2)
      have P11 := (h.a.bel.frozen (p := ⟨w.heap.size + 1, 1, none⟩) (by (first | omega | (simp; done) | (simp; omega)))).trans (frozen_alloc2 p11 y2)
      have T0 := h.a.d0
      have T1 := h.a.dv
      have U0 := h.b.d0
      have U1 := h.b.dv
      have owA := h.a.ow
      have owB := h.b.ow
      have hap := h.ap
      obtain ⟨Aa, na, ca, rfl, ea⟩ := own_formL owA
      obtain ⟨Ab, nb, cb, rfl, eb⟩ := own_formL owB
      have EA := Lib.hid ea
      have EB := Lib.hid eb
      have HAP := Lib.hid hap
      clear h ea eb hap h1 q20 p20 q21 p21 q10 p10 q11 p11
      go_wp2
      go_region
      all_goals
        go_wp2
        exact bodyPost_ret (v := .tuple #[.agg #[.int .i64 m, .slice Aa na ca], .agg #[.int .i64 (n - m), .slice Ab nb cb], .bool true]) (by simp [results, Try.results42, go_sem, Q20, Q21, Q10, Q11, T0, T1, U0, U1]) rfl (by have ea := EA.out; have eb := EB.out; subst ea; subst eb; exact ⟨Aa, ca, Ab, cb, rfl, own_lo (by repeat' (first | exact owA | apply ownsRow_setCell_below | (simp; done) | (simp; omega) | omega)) (by omega), own_lo (by repeat' (first | exact owB | apply ownsRow_setCell_below | (simp; done) | (simp; omega) | omega)) (by omega), HAP.out, by (repeat' (first | (with_reducible exact Below.refl _ _) | (with_reducible refine bl_alloc ?_ _) | (with_reducible refine bl_drewN ?_ _) | (with_reducible refine bl_drew ?_) | (with_reducible assumption) | (with_reducible refine bl_to ?_ (by assumption)) | (with_reducible refine Below.trans ?_ (by assumption)) | (with_reducible refine Below.trans ?_ (Below.mono (by assumption) ?_)) | (with_reducible refine bl_set ?_ ?_ _) | (simp; done) | (simp; omega) | omega))⟩)
end Go.Proofs.Ytbcmidencifcoaa
