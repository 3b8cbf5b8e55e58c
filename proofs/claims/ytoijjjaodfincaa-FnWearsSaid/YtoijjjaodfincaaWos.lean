/- WithoutSilent of the program and of the reference; lengths up to 2^20. -/
import Derived.Test.YtoijjjaodfincaaBuildCylinder
import Derived.Test.YtoijjjaodfincaaCyl
import Derived.Test.YtoijjjaodfincaaWear2
import Derived.Deep.RegionHeld3
namespace Go.Proofs.Ytoijjjaodfincaa
open Go.RowKit

/-- the pins among the first k whose height is not below m -/
def wosN (l : List (Int × Int)) (h : List Int) (m : Int) : Nat → List (Int × Int)
  | 0 => []
  | k + 1 => if m ≤ gi h k then wosN l h m k ++ [gP l k] else wosN l h m k
theorem wosN_len (l : List (Int × Int)) (h : List Int) (m : Int) (k : Nat) : (wosN l h m k).length ≤ k := by
  induction k with
  | zero => simp [wosN]
  | succ k ih =>
    unfold wosN
    split
    · rw [List.length_append]; simp; omega
    · omega
theorem wosN_yes {l : List (Int × Int)} {h : List Int} {m : Int} {k : Nat} (hm : m ≤ gi h k) : wosN l h m (k + 1) = wosN l h m k ++ [gP l k] := by rw [wosN, if_pos hm]
theorem wosN_no {l : List (Int × Int)} {h : List Int} {m : Int} {k : Nat} (hm : ¬ m ≤ gi h k) : wosN l h m (k + 1) = wosN l h m k := by rw [wosN, if_neg hm]
def wosB (st tr : Int) (l : List (Int × Int)) (n : Int) (h : List Int) (m : Int) : Bool := cylB st tr l && wearB n h && inB m 0 1000 && decide (h.length = l.length)
def wosS (st tr : Int) (l : List (Int × Int)) (n : Int) (h : List Int) (m : Int) : Int := if wosB st tr l n h m then st else 0
def wosT (st tr : Int) (l : List (Int × Int)) (n : Int) (h : List Int) (m : Int) : Int := if wosB st tr l n h m then tr else 0
def wosL (st tr : Int) (l : List (Int × Int)) (n : Int) (h : List Int) (m : Int) : List (Int × Int) := if wosB st tr l n h m then wosN l h m l.length else []
theorem wosL_len {st tr : Int} {l : List (Int × Int)} {n : Int} {h : List Int} {m : Int} : (wosL st tr l n h m).length ≤ l.length := by
  unfold wosL
  split
  · exact wosN_len _ _ _ _
  · simp
def NewCylW (n r : Int) (l : List (Int × Int)) (b : Bool) (w : World) (en : Ending) (w' : World) : Prop :=
  ∃ A c, en = .returned (.tuple #[.agg #[.int .i64 n, .int .i64 r, .slice A l.length c], .bool b]) ∧ w'.ownsRow w.heap.size 63 2 (.slice A l.length c) l.length (cP l) ∧ Below w.heap.size w w'
theorem own_form3w {w : World} {lo : Nat} {e : TypeId} {s n : Nat} {v : Value} {xs : List Value} (h : w.ownsRow lo e s v n xs) : ∃ A m c, v = .slice A m c := by
  obtain ⟨A, c, h⟩ := own_form h
  exact ⟨A, n, c, h⟩
theorem cell_onew {w : World} {g j b o : Nat} {u v : Value} (h : w.cell? ⟨b, o, none⟩ = some v) (hne : b ≠ g) : (w.setCell ⟨g, j, none⟩ u).cell? ⟨b, o, none⟩ = some v :=
  (World.cell?_of_block (Below.heap_setCell w ⟨g, j, none⟩ u b hne)).trans h

set_option maxHeartbeats 6400000 in
set_option maxRecDepth 100000 in
theorem wosI_any (st tr n m : Int) (vc vh : Value) (lc : List (Int × Int)) (lh : List Int) (w : World) (hc : RdP w vc lc) (hh : RdI w vh lh) (hlc : lc.length ≤ 1048576) (hlh : lh.length ≤ 1048576) :
    Calls Try.prog 53 #[.agg #[.int .i64 st, .int .i64 tr, vc], .agg #[vh, .int .i64 n], .int .i64 m] w (NewCylW (wosS st tr lc n lh m) (wosT st tr lc n lh m) (wosL st tr lc n lh m) (wosB st tr lc n lh m) w) := by
  cases ho : wosB st tr lc n lh m
  · have hS : wosS st tr lc n lh m = 0 := by simp [wosS, ho]
    have hT : wosT st tr lc n lh m = 0 := by simp [wosT, ho]
    have hL : wosL st tr lc n lh m = [] := by simp [wosL, ho]
    rw [hS, hT, hL]
    clear hS hT hL
    cases h1 : cylB st tr lc
    · go_enter Try.func53, Try.ntmps53
      go_wp2_with ((go_at_call 85; refine (cylI_ok _ _ _ lc _ (hc.bl (by (repeat' (first | (with_reducible exact Below.refl _ _) | (with_reducible refine bl_alloc ?_ _) | (with_reducible refine bl_drewN ?_ _) | (with_reducible refine bl_drew ?_) | (with_reducible assumption) | (with_reducible refine bl_to ?_ (by assumption)) | (with_reducible refine Below.trans ?_ (by assumption)) | (with_reducible refine Below.trans ?_ (Below.mono (by assumption) ?_)) | (with_reducible refine bl_set ?_ ?_ _) | (simp; done) | (simp; omega) | omega)))) hlc).mono ?_; rintro e w1 ⟨rfl, b1⟩; obtain ⟨k1, f1, z1⟩ := bcell b1); have y1 : w.heap.size + 2 < w1.heap.size := z1 _ (by (first | omega | (simp; done) | (simp; omega))); have y1a : w.heap.size + 1 < w1.heap.size := z1 _ (by (first | omega | (simp; done) | (simp; omega))); have y1b : w.heap.size < w1.heap.size := z1 _ (by (first | omega | (simp; done) | (simp; omega))))
      exact bodyPost_ret (v := .tuple #[.agg #[.int .i64 0, .int .i64 0, .slice none 0 0], .bool false]) (by simp [results, Try.results53, go_sem, k1, y1]) rfl ⟨none, 0, rfl, World.ownsRow_nil _ _ _ _, by (repeat' (first | (with_reducible exact Below.refl _ _) | (with_reducible refine bl_alloc ?_ _) | (with_reducible refine bl_drewN ?_ _) | (with_reducible refine bl_drew ?_) | (with_reducible assumption) | (with_reducible refine bl_to ?_ (by assumption)) | (with_reducible refine Below.trans ?_ (by assumption)) | (with_reducible refine Below.trans ?_ (Below.mono (by assumption) ?_)) | (with_reducible refine bl_set ?_ ?_ _) | (simp; done) | (simp; omega) | omega))⟩
    obtain ⟨Ac, cc, rfl, hc0, hc1⟩ := hc.form
    obtain ⟨Ah, ch, rfl, hh0, hh1⟩ := hh.form
    cases h2 : wearB n lh
    rotate_left
    cases h3 : inB m 0 1000
    rotate_left
    have h4 : ¬ lh.length = lc.length := by simpa [wosB, h1, h2, h3] using ho
    have g1 : ((lh.length : Int) != (lc.length : Int)) = true := by simp; omega
    have g2 : ((lh.length : Int) == (lc.length : Int)) = false := by simp; omega
    have g3 : ¬ (lh.length : Int) = (lc.length : Int) := by omega
    all_goals
      go_enter Try.func53, Try.ntmps53
      go_wp2_with (first | ((go_at_call 85; refine (cylI_ok _ _ _ lc _ (hc.bl (by (repeat' (first | (with_reducible exact Below.refl _ _) | (with_reducible refine bl_alloc ?_ _) | (with_reducible refine bl_drewN ?_ _) | (with_reducible refine bl_drew ?_) | (with_reducible assumption) | (with_reducible refine bl_to ?_ (by assumption)) | (with_reducible refine Below.trans ?_ (by assumption)) | (with_reducible refine Below.trans ?_ (Below.mono (by assumption) ?_)) | (with_reducible refine bl_set ?_ ?_ _) | (simp; done) | (simp; omega) | omega)))) hlc).mono ?_; rintro e w1 ⟨rfl, b1⟩; obtain ⟨k1, f1, z1⟩ := bcell b1); have y1 : w.heap.size + 2 < w1.heap.size := z1 _ (by (first | omega | (simp; done) | (simp; omega))); have y1a : w.heap.size + 1 < w1.heap.size := z1 _ (by (first | omega | (simp; done) | (simp; omega))); have y1b : w.heap.size < w1.heap.size := z1 _ (by (first | omega | (simp; done) | (simp; omega)))) | ((go_at_call 54; refine (wearI_ok _ _ lh _ (hh.bl (by (repeat' (first | (with_reducible exact Below.refl _ _) | (with_reducible refine bl_alloc ?_ _) | (with_reducible refine bl_drewN ?_ _) | (with_reducible refine bl_drew ?_) | (with_reducible assumption) | (with_reducible refine bl_to ?_ (by assumption)) | (with_reducible refine Below.trans ?_ (by assumption)) | (with_reducible refine Below.trans ?_ (Below.mono (by assumption) ?_)) | (with_reducible refine bl_set ?_ ?_ _) | (simp; done) | (simp; omega) | omega)))) hlh).mono ?_; rintro e w2 ⟨rfl, b2⟩; obtain ⟨k2, f2, z2⟩ := bcell b2); have y2 : w.heap.size + 2 < w2.heap.size := z2 _ (by (first | omega | (simp; done) | (simp; omega)))) | (go_at_call 68; refine (within_any _ _ _ _).mono ?_; rintro e w' ⟨rfl, rfl⟩))
      have q0 : w2.cell? ⟨w.heap.size + 2, 0, none⟩ = some (.int .i64 0) := (k2 _ _ (by (first | omega | (simp; done) | (simp; omega)))).trans ((k1 _ _ (by (first | omega | (simp; done) | (simp; omega)))).trans (by simp [go_sem]))
      have p0 : w2.frozen? ⟨w.heap.size + 2, 0, none⟩ = false := (f2 _ _ (by (first | omega | (simp; done) | (simp; omega)))).trans ((f1 _ _ (by (first | omega | (simp; done) | (simp; omega)))).trans (by simp [go_sem]))
      have q1 : w2.cell? ⟨w.heap.size + 2, 1, none⟩ = some (.int .i64 0) := (k2 _ _ (by (first | omega | (simp; done) | (simp; omega)))).trans ((k1 _ _ (by (first | omega | (simp; done) | (simp; omega)))).trans (by simp [go_sem]))
      have p1 : w2.frozen? ⟨w.heap.size + 2, 1, none⟩ = false := (f2 _ _ (by (first | omega | (simp; done) | (simp; omega)))).trans ((f1 _ _ (by (first | omega | (simp; done) | (simp; omega)))).trans (by simp [go_sem]))
      have q2 : w2.cell? ⟨w.heap.size + 2, 2, none⟩ = some (.slice none 0 0) := (k2 _ _ (by (first | omega | (simp; done) | (simp; omega)))).trans ((k1 _ _ (by (first | omega | (simp; done) | (simp; omega)))).trans (by simp [go_sem]))
      have p2 : w2.frozen? ⟨w.heap.size + 2, 2, none⟩ = false := (f2 _ _ (by (first | omega | (simp; done) | (simp; omega)))).trans ((f1 _ _ (by (first | omega | (simp; done) | (simp; omega)))).trans (by simp [go_sem]))
      clear k1 k2 f1 f2
      exact bodyPost_ret (v := .tuple #[.agg #[.int .i64 0, .int .i64 0, .slice none 0 0], .bool false]) (by simp [results, Try.results53, go_sem, q0, q1, q2, p0, p1, p2]) rfl ⟨none, 0, rfl, World.ownsRow_nil _ _ _ _, by (repeat' (first | (with_reducible exact Below.refl _ _) | (with_reducible refine bl_alloc ?_ _) | (with_reducible refine bl_drewN ?_ _) | (with_reducible refine bl_drew ?_) | (with_reducible assumption) | (with_reducible refine bl_to ?_ (by assumption)) | (with_reducible refine Below.trans ?_ (by assumption)) | (with_reducible refine Below.trans ?_ (Below.mono (by assumption) ?_)) | (with_reducible refine bl_set ?_ ?_ _) | (simp; done) | (simp; omega) | omega))⟩
  · have hS : wosS st tr lc n lh m = st := by simp [wosS, ho]
    have hT : wosT st tr lc n lh m = tr := by simp [wosT, ho]
    have hL : wosL st tr lc n lh m = wosN lc lh m lc.length := by simp [wosL, ho]
    rw [hS, hT, hL]
    clear hS hT hL
    obtain ⟨⟨⟨h1, h2⟩, h3⟩, h4⟩ : ((cylB st tr lc = true ∧ wearB n lh = true) ∧ inB m 0 1000 = true) ∧ lh.length = lc.length := by simpa [wosB] using ho
    have l100 := (cylB_iff h1).2.2.1
    obtain ⟨Ac, cc, rfl, hc0, hc1⟩ := hc.form
    obtain ⟨Ah, ch, rfl, hh0, hh1⟩ := hh.form
    have g1 : ((lh.length : Int) != (lc.length : Int)) = false := by simp; omega
    have g2 : ((lh.length : Int) == (lc.length : Int)) = true := by simp; omega
    have g3 : decide (lh.length = lc.length) = true := by simp; omega
    have g4 : (lh.length == lc.length) = true := by simp; omega
    have H4 := Lib.hid h4
    clear h4 ho
    go_enter Try.func53, Try.ntmps53
    go_wp2_with (first | ((go_at_call 85; refine (cylI_ok _ _ _ lc _ (hc.bl (by (repeat' (first | (with_reducible exact Below.refl _ _) | (with_reducible refine bl_alloc ?_ _) | (with_reducible refine bl_drewN ?_ _) | (with_reducible refine bl_drew ?_) | (with_reducible assumption) | (with_reducible refine bl_to ?_ (by assumption)) | (with_reducible refine Below.trans ?_ (by assumption)) | (with_reducible refine Below.trans ?_ (Below.mono (by assumption) ?_)) | (with_reducible refine bl_set ?_ ?_ _) | (simp; done) | (simp; omega) | omega)))) hlc).mono ?_; rintro e w1 ⟨rfl, b1⟩; obtain ⟨k1, f1, z1⟩ := bcell b1); have y1 : w.heap.size + 2 < w1.heap.size := z1 _ (by (first | omega | (simp; done) | (simp; omega))); have y1a : w.heap.size + 1 < w1.heap.size := z1 _ (by (first | omega | (simp; done) | (simp; omega))); have y1b : w.heap.size < w1.heap.size := z1 _ (by (first | omega | (simp; done) | (simp; omega)))) | ((go_at_call 54; refine (wearI_ok _ _ lh _ (hh.bl (by (repeat' (first | (with_reducible exact Below.refl _ _) | (with_reducible refine bl_alloc ?_ _) | (with_reducible refine bl_drewN ?_ _) | (with_reducible refine bl_drew ?_) | (with_reducible assumption) | (with_reducible refine bl_to ?_ (by assumption)) | (with_reducible refine Below.trans ?_ (by assumption)) | (with_reducible refine Below.trans ?_ (Below.mono (by assumption) ?_)) | (with_reducible refine bl_set ?_ ?_ _) | (simp; done) | (simp; omega) | omega)))) hlh).mono ?_; rintro e w2 ⟨rfl, b2⟩; obtain ⟨k2, f2, z2⟩ := bcell b2); have y2 : w.heap.size + 2 < w2.heap.size := z2 _ (by (first | omega | (simp; done) | (simp; omega)))) | (go_at_call 68; refine (within_any _ _ _ _).mono ?_; rintro e w' ⟨rfl, rfl⟩))
    have q0 : w2.cell? ⟨w.heap.size + 2, 0, none⟩ = some (.int .i64 0) := (k2 _ _ (by (first | omega | (simp; done) | (simp; omega)))).trans ((k1 _ _ (by (first | omega | (simp; done) | (simp; omega)))).trans (by simp [go_sem]))
    have p0 : w2.frozen? ⟨w.heap.size + 2, 0, none⟩ = false := (f2 _ _ (by (first | omega | (simp; done) | (simp; omega)))).trans ((f1 _ _ (by (first | omega | (simp; done) | (simp; omega)))).trans (by simp [go_sem]))
    have q1 : w2.cell? ⟨w.heap.size + 2, 1, none⟩ = some (.int .i64 0) := (k2 _ _ (by (first | omega | (simp; done) | (simp; omega)))).trans ((k1 _ _ (by (first | omega | (simp; done) | (simp; omega)))).trans (by simp [go_sem]))
    have p1 : w2.frozen? ⟨w.heap.size + 2, 1, none⟩ = false := (f2 _ _ (by (first | omega | (simp; done) | (simp; omega)))).trans ((f1 _ _ (by (first | omega | (simp; done) | (simp; omega)))).trans (by simp [go_sem]))
    have q2 : w2.cell? ⟨w.heap.size + 2, 2, none⟩ = some (.slice none 0 0) := (k2 _ _ (by (first | omega | (simp; done) | (simp; omega)))).trans ((k1 _ _ (by (first | omega | (simp; done) | (simp; omega)))).trans (by simp [go_sem]))
    have p2 : w2.frozen? ⟨w.heap.size + 2, 2, none⟩ = false := (f2 _ _ (by (first | omega | (simp; done) | (simp; omega)))).trans ((f1 _ _ (by (first | omega | (simp; done) | (simp; omega)))).trans (by simp [go_sem]))
    have x02 : w2.cell? ⟨w.heap.size, 2, none⟩ = some (.slice Ac lc.length cc) := (k2 _ _ (by (first | omega | (simp; done) | (simp; omega)))).trans ((k1 _ _ (by (first | omega | (simp; done) | (simp; omega)))).trans (by simp [go_sem]))
    have x10 : w2.cell? ⟨w.heap.size + 1, 0, none⟩ = some (.slice Ah lh.length ch) := (k2 _ _ (by (first | omega | (simp; done) | (simp; omega)))).trans ((k1 _ _ (by (first | omega | (simp; done) | (simp; omega)))).trans (by simp [go_sem]))
    have S0 := CylinderSt.mk0 (w1 := w2) (n := st) (r := tr) rfl
    have X02 := (World.cell?_alloc_lt w2 (Obj.cells #[.int .i64 st, .int .i64 tr, .slice none 0 0] 61) ⟨w.heap.size, 2, none⟩ (by simp; omega)).trans x02
    have X10 := (World.cell?_alloc_lt w2 (Obj.cells #[.int .i64 st, .int .i64 tr, .slice none 0 0] 61) ⟨w.heap.size + 1, 0, none⟩ (by simp; omega)).trans x10
    have Q0 := (World.cell?_alloc_lt w2 (Obj.cells #[.int .i64 st, .int .i64 tr, .slice none 0 0] 61) ⟨w.heap.size + 2, 0, none⟩ (by simp; omega)).trans q0
    have P0 := (World.frozen?_of_block (a := ⟨w.heap.size + 2, 0, none⟩) (Below.heap_alloc w2 (Obj.cells #[.int .i64 st, .int .i64 tr, .slice none 0 0] 61) (w.heap.size + 2) (by omega))).trans p0
    have Q1 := (World.cell?_alloc_lt w2 (Obj.cells #[.int .i64 st, .int .i64 tr, .slice none 0 0] 61) ⟨w.heap.size + 2, 1, none⟩ (by simp; omega)).trans q1
    have P1 := (World.frozen?_of_block (a := ⟨w.heap.size + 2, 1, none⟩) (Below.heap_alloc w2 (Obj.cells #[.int .i64 st, .int .i64 tr, .slice none 0 0] 61) (w.heap.size + 2) (by omega))).trans p1
    have Q2 := (World.cell?_alloc_lt w2 (Obj.cells #[.int .i64 st, .int .i64 tr, .slice none 0 0] 61) ⟨w.heap.size + 2, 2, none⟩ (by simp; omega)).trans q2
    have P2 := (World.frozen?_of_block (a := ⟨w.heap.size + 2, 2, none⟩) (Below.heap_alloc w2 (Obj.cells #[.int .i64 st, .int .i64 tr, .slice none 0 0] 61) (w.heap.size + 2) (by omega))).trans p2
    have bel0 : Below w.heap.size w (w2.alloc (Obj.cells #[.int .i64 st, .int .i64 tr, .slice none 0 0] 61)) := by (repeat' (first | (with_reducible exact Below.refl _ _) | (with_reducible refine bl_alloc ?_ _) | (with_reducible refine bl_drewN ?_ _) | (with_reducible refine bl_drew ?_) | (with_reducible assumption) | (with_reducible refine bl_to ?_ (by assumption)) | (with_reducible refine Below.trans ?_ (by assumption)) | (with_reducible refine Below.trans ?_ (Below.mono (by assumption) ?_)) | (with_reducible refine bl_set ?_ ?_ _) | (simp; done) | (simp; omega) | omega))
    clear x02 x10 q0 q1 q2 p0 p1 p2 k1 f1 z1 b1 k2 f2 z2 b2 y1 y1a y1b
    generalize (w2.alloc (Obj.cells #[.int .i64 st, .int .i64 tr, .slice none 0 0] 61)) = w0 at *
    generalize w2.heap.size = D at *
    have XQ := Lib.hid (And.intro X02 (And.intro X10 (And.intro Q0 (And.intro Q1 (And.intro Q2 (And.intro P0 (And.intro P1 P2)))))))
    clear X02 X10 Q0 Q1 Q2 P0 P1 P2
    go_loopw [42] (fun i wr => ∃ (k : Nat) (v : Value), k ≤ lc.length ∧ i = .int .i64 k ∧ CylinderSt w0 D wr st tr v (wosN lc lh m k)) (fun i _ => lc.length - (intOf i).toNat)
    case atStart => exact ⟨0, _, Nat.zero_le _, rfl, S0⟩
    case round =>
      clear S0
      obtain ⟨k, v, hk, rfl, h⟩ := hrel
      have belr : Below w.heap.size w wr := bel0.trans (h.bel.mono (by omega))
      obtain ⟨X02, X10, Q0, Q1, Q2, P0, P1, P2⟩ := XQ.out
      have hwl := wosN_len lc lh m k
      have hdl := h.dl
      by_cases hlt : k < lc.length
      · have hlt' : (k : Int) < (lc.length : Int) := by omega
        have hlh' : (k : Int) < (lh.length : Int) := by have := H4.out; omega
        have k0 : (0 : Int) ≤ (k : Int) := by omega
        obtain ⟨b, o, rfl, hb, e0, e1⟩ := RdP.at_ (hc.bl belr) hlt
        have hbw : b < w.heap.size := by
          obtain ⟨g', o', e, hg', _⟩ := RdP.at_ hc hlt
          cases e
          exact hg'
        obtain ⟨g0, o0, rfl, hg0, rd⟩ := hh.look (by have := H4.out; omega)
        have e2 := (belr.cell (p := ⟨g0, o0 + k, none⟩) hg0).trans (rd k _ (cI_get (by have := H4.out; omega)))
        have Y10 := (h.bel.cell (p := ⟨w.heap.size + 1, 0, none⟩) (by simp; omega)).trans X10
        have Y02 := (h.bel.cell (p := ⟨w.heap.size, 2, none⟩) (by simp; omega)).trans X02
        have yb : w.heap.size + 1 < wr.heap.size := by omega
        have yc : w.heap.size < wr.heap.size := by omega
        have yg : g0 < wr.heap.size := by omega
        clear Q0 Q1 Q2 P0 P1 P2 rd X02 X10 hc hh g1 g2 g3 g4
        by_cases hs : m ≤ gi lh k
        · have hh2 := Lib.hid (wosN_yes (l := lc) hs)
          have hst : CylinderSt w0 D ((wr.alloc (Obj.cells #[.int .i64 (gP lc k).1, .int .i64 (gP lc k).2] 63)).alloc (Obj.cells #[.int .i64 (gP lc k).1, .int .i64 (gP lc k).2] 63)) st tr v (wosN lc lh m k) := h.step (bl_alloc (bl_alloc (Below.refl _ _) _) _)
          have dv := h.dv
          go_wp2_with (at_builtin; refine wpList_app_P _ rfl _ _ rfl (D + 1) _ _ rfl hst.ow (wr.heap.size + 1) (gP lc k).1 (gP lc k).2 rfl ?_ ?_ (by omega) (by simp; omega) ?_; rotate_left 2; intro v2 w2' ow2 bb gr at2; obtain ⟨A2, n2, c2, rfl⟩ := own_form3w ow2; have cD := (bb.cell (p := ⟨D, 2, none⟩) (by simp)).trans hst.dv; have fD := (bb.frozen (p := ⟨D, 2, none⟩) (by simp)).trans hst.fv)
          · go_roundw
            case rel => exact ⟨k + 1, _, by omega, by go_num, by rw [hh2.out]; exact hst.app (_, _) bb ow2⟩
            case measure => simp [intOf]; omega
          all_goals (simp; done)
        · have hh2 := Lib.hid (wosN_no (l := lc) hs)
          go_wp2
          go_roundw
          case rel => exact ⟨k + 1, v, by omega, by go_num, by rw [hh2.out]; exact h.step (bl_alloc (Below.refl _ _) _)⟩
          case measure => simp [intOf]; omega
      · obtain rfl : k = lc.length := by omega
        have Z0 := (h.bel.cell (p := ⟨w.heap.size + 2, 0, none⟩) (by simp; omega)).trans Q0
        have Z1 := (h.bel.cell (p := ⟨w.heap.size + 2, 1, none⟩) (by simp; omega)).trans Q1
        have Z2 := (h.bel.cell (p := ⟨w.heap.size + 2, 2, none⟩) (by simp; omega)).trans Q2
        have Y02 := (h.bel.cell (p := ⟨w.heap.size, 2, none⟩) (by simp; omega)).trans X02
        have F0 := (h.bel.frozen (p := ⟨w.heap.size + 2, 0, none⟩) (by simp; omega)).trans P0
        have F1 := (h.bel.frozen (p := ⟨w.heap.size + 2, 1, none⟩) (by simp; omega)).trans P1
        have F2 := (h.bel.frozen (p := ⟨w.heap.size + 2, 2, none⟩) (by simp; omega)).trans P2
        have T0 := h.d0
        have T1 := h.d1
        have T2 := h.dv
        have ow := h.ow
        clear X02 X10 Q0 Q1 Q2 P0 P1 P2 h
        obtain ⟨A, c, rfl⟩ := own_form ow
        go_wp2
        exact bodyPost_ret (v := .tuple #[.agg #[.int .i64 st, .int .i64 tr, .slice A (wosN lc lh m lc.length).length c], .bool true]) (by simp [results, Try.results53, go_sem, Z0, Z1, Z2, T0, T1, T2]) rfl ⟨A, c, rfl, own_lo (ownsRow_setCell_below (ownsRow_setCell_below (ownsRow_setCell_below ow (by simp; omega) _) (by simp; omega) _) (by simp; omega) _) (by omega), bl_set (bl_set (bl_set belr (by (first | omega | (simp; done) | (simp; omega))) _) (by (first | omega | (simp; done) | (simp; omega))) _) (by (first | omega | (simp; done) | (simp; omega))) _⟩

set_option maxHeartbeats 6400000 in
set_option maxRecDepth 100000 in
theorem wosS_any (st tr n m : Int) (vc vh : Value) (lc : List (Int × Int)) (lh : List Int) (w : World) (hc : RdP w vc lc) (hh : RdI w vh lh) (hlc : lc.length ≤ 1048576) (hlh : lh.length ≤ 1048576) :
    Calls Try.prog 65 #[.agg #[.int .i64 st, .int .i64 tr, vc], .agg #[vh, .int .i64 n], .int .i64 m] w (NewCylW (wosS st tr lc n lh m) (wosT st tr lc n lh m) (wosL st tr lc n lh m) (wosB st tr lc n lh m) w) := by
  cases ho : wosB st tr lc n lh m
  · have hS : wosS st tr lc n lh m = 0 := by simp [wosS, ho]
    have hT : wosT st tr lc n lh m = 0 := by simp [wosT, ho]
    have hL : wosL st tr lc n lh m = [] := by simp [wosL, ho]
    rw [hS, hT, hL]
    clear hS hT hL
    cases h1 : cylB st tr lc
    · go_enter Try.func65, Try.ntmps65
      go_wp2_with ((go_at_call 89; refine (cylS_ok _ _ _ lc _ (hc.bl (by (repeat' (first | (with_reducible exact Below.refl _ _) | (with_reducible refine bl_alloc ?_ _) | (with_reducible refine bl_drewN ?_ _) | (with_reducible refine bl_drew ?_) | (with_reducible assumption) | (with_reducible refine bl_to ?_ (by assumption)) | (with_reducible refine Below.trans ?_ (by assumption)) | (with_reducible refine Below.trans ?_ (Below.mono (by assumption) ?_)) | (with_reducible refine bl_set ?_ ?_ _) | (simp; done) | (simp; omega) | omega)))) hlc).mono ?_; rintro e w1 ⟨rfl, b1⟩; obtain ⟨k1, f1, z1⟩ := bcell b1); have y1 : w.heap.size + 2 < w1.heap.size := z1 _ (by (first | omega | (simp; done) | (simp; omega))); have y1a : w.heap.size + 1 < w1.heap.size := z1 _ (by (first | omega | (simp; done) | (simp; omega))); have y1b : w.heap.size < w1.heap.size := z1 _ (by (first | omega | (simp; done) | (simp; omega))))
      exact bodyPost_ret (v := .tuple #[.agg #[.int .i64 0, .int .i64 0, .slice none 0 0], .bool false]) (by simp [results, Try.results65, go_sem, k1, y1]) rfl ⟨none, 0, rfl, World.ownsRow_nil _ _ _ _, by (repeat' (first | (with_reducible exact Below.refl _ _) | (with_reducible refine bl_alloc ?_ _) | (with_reducible refine bl_drewN ?_ _) | (with_reducible refine bl_drew ?_) | (with_reducible assumption) | (with_reducible refine bl_to ?_ (by assumption)) | (with_reducible refine Below.trans ?_ (by assumption)) | (with_reducible refine Below.trans ?_ (Below.mono (by assumption) ?_)) | (with_reducible refine bl_set ?_ ?_ _) | (simp; done) | (simp; omega) | omega))⟩
    obtain ⟨Ac, cc, rfl, hc0, hc1⟩ := hc.form
    obtain ⟨Ah, ch, rfl, hh0, hh1⟩ := hh.form
    cases h2 : wearB n lh
    rotate_left
    cases h3 : inB m 0 1000
    rotate_left
    have h4 : ¬ lh.length = lc.length := by simpa [wosB, h1, h2, h3] using ho
    have g1 : ((lh.length : Int) != (lc.length : Int)) = true := by simp; omega
    have g2 : ((lh.length : Int) == (lc.length : Int)) = false := by simp; omega
    have g3 : ¬ (lh.length : Int) = (lc.length : Int) := by omega
    all_goals
      go_enter Try.func65, Try.ntmps65
      go_wp2_with (first | ((go_at_call 89; refine (cylS_ok _ _ _ lc _ (hc.bl (by (repeat' (first | (with_reducible exact Below.refl _ _) | (with_reducible refine bl_alloc ?_ _) | (with_reducible refine bl_drewN ?_ _) | (with_reducible refine bl_drew ?_) | (with_reducible assumption) | (with_reducible refine bl_to ?_ (by assumption)) | (with_reducible refine Below.trans ?_ (by assumption)) | (with_reducible refine Below.trans ?_ (Below.mono (by assumption) ?_)) | (with_reducible refine bl_set ?_ ?_ _) | (simp; done) | (simp; omega) | omega)))) hlc).mono ?_; rintro e w1 ⟨rfl, b1⟩; obtain ⟨k1, f1, z1⟩ := bcell b1); have y1 : w.heap.size + 2 < w1.heap.size := z1 _ (by (first | omega | (simp; done) | (simp; omega))); have y1a : w.heap.size + 1 < w1.heap.size := z1 _ (by (first | omega | (simp; done) | (simp; omega))); have y1b : w.heap.size < w1.heap.size := z1 _ (by (first | omega | (simp; done) | (simp; omega)))) | ((go_at_call 73; refine (wearS_ok _ _ lh _ (hh.bl (by (repeat' (first | (with_reducible exact Below.refl _ _) | (with_reducible refine bl_alloc ?_ _) | (with_reducible refine bl_drewN ?_ _) | (with_reducible refine bl_drew ?_) | (with_reducible assumption) | (with_reducible refine bl_to ?_ (by assumption)) | (with_reducible refine Below.trans ?_ (by assumption)) | (with_reducible refine Below.trans ?_ (Below.mono (by assumption) ?_)) | (with_reducible refine bl_set ?_ ?_ _) | (simp; done) | (simp; omega) | omega)))) hlh).mono ?_; rintro e w2 ⟨rfl, b2⟩; obtain ⟨k2, f2, z2⟩ := bcell b2); have y2 : w.heap.size + 2 < w2.heap.size := z2 _ (by (first | omega | (simp; done) | (simp; omega)))) | (go_at_call 67; refine (l01In_any _ _ _ _).mono ?_; rintro e w' ⟨rfl, rfl⟩))
      have q0 : w2.cell? ⟨w.heap.size + 2, 0, none⟩ = some (.int .i64 0) := (k2 _ _ (by (first | omega | (simp; done) | (simp; omega)))).trans ((k1 _ _ (by (first | omega | (simp; done) | (simp; omega)))).trans (by simp [go_sem]))
      have p0 : w2.frozen? ⟨w.heap.size + 2, 0, none⟩ = false := (f2 _ _ (by (first | omega | (simp; done) | (simp; omega)))).trans ((f1 _ _ (by (first | omega | (simp; done) | (simp; omega)))).trans (by simp [go_sem]))
      have q1 : w2.cell? ⟨w.heap.size + 2, 1, none⟩ = some (.int .i64 0) := (k2 _ _ (by (first | omega | (simp; done) | (simp; omega)))).trans ((k1 _ _ (by (first | omega | (simp; done) | (simp; omega)))).trans (by simp [go_sem]))
      have p1 : w2.frozen? ⟨w.heap.size + 2, 1, none⟩ = false := (f2 _ _ (by (first | omega | (simp; done) | (simp; omega)))).trans ((f1 _ _ (by (first | omega | (simp; done) | (simp; omega)))).trans (by simp [go_sem]))
      have q2 : w2.cell? ⟨w.heap.size + 2, 2, none⟩ = some (.slice none 0 0) := (k2 _ _ (by (first | omega | (simp; done) | (simp; omega)))).trans ((k1 _ _ (by (first | omega | (simp; done) | (simp; omega)))).trans (by simp [go_sem]))
      have p2 : w2.frozen? ⟨w.heap.size + 2, 2, none⟩ = false := (f2 _ _ (by (first | omega | (simp; done) | (simp; omega)))).trans ((f1 _ _ (by (first | omega | (simp; done) | (simp; omega)))).trans (by simp [go_sem]))
      clear k1 k2 f1 f2
      exact bodyPost_ret (v := .tuple #[.agg #[.int .i64 0, .int .i64 0, .slice none 0 0], .bool false]) (by simp [results, Try.results65, go_sem, q0, q1, q2, p0, p1, p2]) rfl ⟨none, 0, rfl, World.ownsRow_nil _ _ _ _, by (repeat' (first | (with_reducible exact Below.refl _ _) | (with_reducible refine bl_alloc ?_ _) | (with_reducible refine bl_drewN ?_ _) | (with_reducible refine bl_drew ?_) | (with_reducible assumption) | (with_reducible refine bl_to ?_ (by assumption)) | (with_reducible refine Below.trans ?_ (by assumption)) | (with_reducible refine Below.trans ?_ (Below.mono (by assumption) ?_)) | (with_reducible refine bl_set ?_ ?_ _) | (simp; done) | (simp; omega) | omega))⟩
  · have hS : wosS st tr lc n lh m = st := by simp [wosS, ho]
    have hT : wosT st tr lc n lh m = tr := by simp [wosT, ho]
    have hL : wosL st tr lc n lh m = wosN lc lh m lc.length := by simp [wosL, ho]
    rw [hS, hT, hL]
    clear hS hT hL
    obtain ⟨⟨⟨h1, h2⟩, h3⟩, h4⟩ : ((cylB st tr lc = true ∧ wearB n lh = true) ∧ inB m 0 1000 = true) ∧ lh.length = lc.length := by simpa [wosB] using ho
    have l100 := (cylB_iff h1).2.2.1
    obtain ⟨Ac, cc, rfl, hc0, hc1⟩ := hc.form
    obtain ⟨Ah, ch, rfl, hh0, hh1⟩ := hh.form
    have g1 : ((lh.length : Int) != (lc.length : Int)) = false := by simp; omega
    have g2 : ((lh.length : Int) == (lc.length : Int)) = true := by simp; omega
    have g3 : decide (lh.length = lc.length) = true := by simp; omega
    have g4 : (lh.length == lc.length) = true := by simp; omega
    have H4 := Lib.hid h4
    clear h4 ho
    go_enter Try.func65, Try.ntmps65
    go_wp2_with (first | ((go_at_call 89; refine (cylS_ok _ _ _ lc _ (hc.bl (by (repeat' (first | (with_reducible exact Below.refl _ _) | (with_reducible refine bl_alloc ?_ _) | (with_reducible refine bl_drewN ?_ _) | (with_reducible refine bl_drew ?_) | (with_reducible assumption) | (with_reducible refine bl_to ?_ (by assumption)) | (with_reducible refine Below.trans ?_ (by assumption)) | (with_reducible refine Below.trans ?_ (Below.mono (by assumption) ?_)) | (with_reducible refine bl_set ?_ ?_ _) | (simp; done) | (simp; omega) | omega)))) hlc).mono ?_; rintro e w1 ⟨rfl, b1⟩; obtain ⟨k1, f1, z1⟩ := bcell b1); have y1 : w.heap.size + 2 < w1.heap.size := z1 _ (by (first | omega | (simp; done) | (simp; omega))); have y1a : w.heap.size + 1 < w1.heap.size := z1 _ (by (first | omega | (simp; done) | (simp; omega))); have y1b : w.heap.size < w1.heap.size := z1 _ (by (first | omega | (simp; done) | (simp; omega)))) | ((go_at_call 73; refine (wearS_ok _ _ lh _ (hh.bl (by (repeat' (first | (with_reducible exact Below.refl _ _) | (with_reducible refine bl_alloc ?_ _) | (with_reducible refine bl_drewN ?_ _) | (with_reducible refine bl_drew ?_) | (with_reducible assumption) | (with_reducible refine bl_to ?_ (by assumption)) | (with_reducible refine Below.trans ?_ (by assumption)) | (with_reducible refine Below.trans ?_ (Below.mono (by assumption) ?_)) | (with_reducible refine bl_set ?_ ?_ _) | (simp; done) | (simp; omega) | omega)))) hlh).mono ?_; rintro e w2 ⟨rfl, b2⟩; obtain ⟨k2, f2, z2⟩ := bcell b2); have y2 : w.heap.size + 2 < w2.heap.size := z2 _ (by (first | omega | (simp; done) | (simp; omega)))) | (go_at_call 67; refine (l01In_any _ _ _ _).mono ?_; rintro e w' ⟨rfl, rfl⟩))
    have q0 : w2.cell? ⟨w.heap.size + 2, 0, none⟩ = some (.int .i64 0) := (k2 _ _ (by (first | omega | (simp; done) | (simp; omega)))).trans ((k1 _ _ (by (first | omega | (simp; done) | (simp; omega)))).trans (by simp [go_sem]))
    have p0 : w2.frozen? ⟨w.heap.size + 2, 0, none⟩ = false := (f2 _ _ (by (first | omega | (simp; done) | (simp; omega)))).trans ((f1 _ _ (by (first | omega | (simp; done) | (simp; omega)))).trans (by simp [go_sem]))
    have q1 : w2.cell? ⟨w.heap.size + 2, 1, none⟩ = some (.int .i64 0) := (k2 _ _ (by (first | omega | (simp; done) | (simp; omega)))).trans ((k1 _ _ (by (first | omega | (simp; done) | (simp; omega)))).trans (by simp [go_sem]))
    have p1 : w2.frozen? ⟨w.heap.size + 2, 1, none⟩ = false := (f2 _ _ (by (first | omega | (simp; done) | (simp; omega)))).trans ((f1 _ _ (by (first | omega | (simp; done) | (simp; omega)))).trans (by simp [go_sem]))
    have q2 : w2.cell? ⟨w.heap.size + 2, 2, none⟩ = some (.slice none 0 0) := (k2 _ _ (by (first | omega | (simp; done) | (simp; omega)))).trans ((k1 _ _ (by (first | omega | (simp; done) | (simp; omega)))).trans (by simp [go_sem]))
    have p2 : w2.frozen? ⟨w.heap.size + 2, 2, none⟩ = false := (f2 _ _ (by (first | omega | (simp; done) | (simp; omega)))).trans ((f1 _ _ (by (first | omega | (simp; done) | (simp; omega)))).trans (by simp [go_sem]))
    have x02 : w2.cell? ⟨w.heap.size, 2, none⟩ = some (.slice Ac lc.length cc) := (k2 _ _ (by (first | omega | (simp; done) | (simp; omega)))).trans ((k1 _ _ (by (first | omega | (simp; done) | (simp; omega)))).trans (by simp [go_sem]))
    have x10 : w2.cell? ⟨w.heap.size + 1, 0, none⟩ = some (.slice Ah lh.length ch) := (k2 _ _ (by (first | omega | (simp; done) | (simp; omega)))).trans ((k1 _ _ (by (first | omega | (simp; done) | (simp; omega)))).trans (by simp [go_sem]))
    have S0 := CylinderSt.mk0 (w1 := w2) (n := st) (r := tr) rfl
    have X02 := (World.cell?_alloc_lt w2 (Obj.cells #[.int .i64 st, .int .i64 tr, .slice none 0 0] 61) ⟨w.heap.size, 2, none⟩ (by simp; omega)).trans x02
    have X10 := (World.cell?_alloc_lt w2 (Obj.cells #[.int .i64 st, .int .i64 tr, .slice none 0 0] 61) ⟨w.heap.size + 1, 0, none⟩ (by simp; omega)).trans x10
    have Q0 := (World.cell?_alloc_lt w2 (Obj.cells #[.int .i64 st, .int .i64 tr, .slice none 0 0] 61) ⟨w.heap.size + 2, 0, none⟩ (by simp; omega)).trans q0
    have P0 := (World.frozen?_of_block (a := ⟨w.heap.size + 2, 0, none⟩) (Below.heap_alloc w2 (Obj.cells #[.int .i64 st, .int .i64 tr, .slice none 0 0] 61) (w.heap.size + 2) (by omega))).trans p0
    have Q1 := (World.cell?_alloc_lt w2 (Obj.cells #[.int .i64 st, .int .i64 tr, .slice none 0 0] 61) ⟨w.heap.size + 2, 1, none⟩ (by simp; omega)).trans q1
    have P1 := (World.frozen?_of_block (a := ⟨w.heap.size + 2, 1, none⟩) (Below.heap_alloc w2 (Obj.cells #[.int .i64 st, .int .i64 tr, .slice none 0 0] 61) (w.heap.size + 2) (by omega))).trans p1
    have Q2 := (World.cell?_alloc_lt w2 (Obj.cells #[.int .i64 st, .int .i64 tr, .slice none 0 0] 61) ⟨w.heap.size + 2, 2, none⟩ (by simp; omega)).trans q2
    have P2 := (World.frozen?_of_block (a := ⟨w.heap.size + 2, 2, none⟩) (Below.heap_alloc w2 (Obj.cells #[.int .i64 st, .int .i64 tr, .slice none 0 0] 61) (w.heap.size + 2) (by omega))).trans p2
    have bel0 : Below w.heap.size w (w2.alloc (Obj.cells #[.int .i64 st, .int .i64 tr, .slice none 0 0] 61)) := by (repeat' (first | (with_reducible exact Below.refl _ _) | (with_reducible refine bl_alloc ?_ _) | (with_reducible refine bl_drewN ?_ _) | (with_reducible refine bl_drew ?_) | (with_reducible assumption) | (with_reducible refine bl_to ?_ (by assumption)) | (with_reducible refine Below.trans ?_ (by assumption)) | (with_reducible refine Below.trans ?_ (Below.mono (by assumption) ?_)) | (with_reducible refine bl_set ?_ ?_ _) | (simp; done) | (simp; omega) | omega))
    clear x02 x10 q0 q1 q2 p0 p1 p2 k1 f1 z1 b1 k2 f2 z2 b2 y1 y1a y1b
    generalize (w2.alloc (Obj.cells #[.int .i64 st, .int .i64 tr, .slice none 0 0] 61)) = w0 at *
    generalize w2.heap.size = D at *
    have XQ := Lib.hid (And.intro X02 (And.intro X10 (And.intro Q0 (And.intro Q1 (And.intro Q2 (And.intro P0 (And.intro P1 P2)))))))
    clear X02 X10 Q0 Q1 Q2 P0 P1 P2
    go_loopw [9] (fun i wr => ∃ (k : Nat) (v : Value), k ≤ lc.length ∧ i = .int .i64 k ∧ CylinderSt w0 D wr st tr v (wosN lc lh m k)) (fun i _ => lc.length - (intOf i).toNat)
    case atStart => exact ⟨0, _, Nat.zero_le _, rfl, S0⟩
    case round =>
      clear S0
      obtain ⟨k, v, hk, rfl, h⟩ := hrel
      have belr : Below w.heap.size w wr := bel0.trans (h.bel.mono (by omega))
      obtain ⟨X02, X10, Q0, Q1, Q2, P0, P1, P2⟩ := XQ.out
      have hwl := wosN_len lc lh m k
      have hdl := h.dl
      by_cases hlt : k < lc.length
      · have hlt' : (k : Int) < (lc.length : Int) := by omega
        have hlh' : (k : Int) < (lh.length : Int) := by have := H4.out; omega
        have k0 : (0 : Int) ≤ (k : Int) := by omega
        obtain ⟨b, o, rfl, hb, e0, e1⟩ := RdP.at_ (hc.bl belr) hlt
        have hbw : b < w.heap.size := by
          obtain ⟨g', o', e, hg', _⟩ := RdP.at_ hc hlt
          cases e
          exact hg'
        obtain ⟨g0, o0, rfl, hg0, rd⟩ := hh.look (by have := H4.out; omega)
        have e2 := (belr.cell (p := ⟨g0, o0 + k, none⟩) hg0).trans (rd k _ (cI_get (by have := H4.out; omega)))
        have Y10 := (h.bel.cell (p := ⟨w.heap.size + 1, 0, none⟩) (by simp; omega)).trans X10
        have Y02 := (h.bel.cell (p := ⟨w.heap.size, 2, none⟩) (by simp; omega)).trans X02
        have yb : w.heap.size + 1 < wr.heap.size := by omega
        have yc : w.heap.size < wr.heap.size := by omega
        have yg : g0 < wr.heap.size := by omega
        clear Q0 Q1 Q2 P0 P1 P2 rd X02 X10 hc hh g1 g2 g3 g4
        by_cases hs : m ≤ gi lh k
        · have hh2 := Lib.hid (wosN_yes (l := lc) hs)
          have hst : CylinderSt w0 D (wr.alloc (Obj.cells #[.int .i64 (gP lc k).1, .int .i64 (gP lc k).2] 63)).drew st tr v (wosN lc lh m k) := h.step (bl_drew (bl_alloc (Below.refl _ _) _))
          have dv := h.dv
          have fv := h.fv
          have ya : w.heap.size < wr.heap.size := by omega
          go_wp2
          refine wp_region_held_drew (S := fun w' => w'.cell? ⟨w.heap.size, 2, none⟩ = some (.slice (some ⟨b, o, none⟩) lc.length cc) ∧ w'.cell? ⟨b, o + k * 2, none⟩ = some (.int .i64 (gP lc k).1) ∧ w'.cell? ⟨b, o + k * 2 + 1, none⟩ = some (.int .i64 (gP lc k).2)) (by kernel_rfl) ⟨Y02, e0, e1⟩ (fun hHeld => ?_)
          refine wpAnyH_take (i := 0) (oi := _) (v := ?_) rfl (by kernel_rfl) (by kernel_rfl) (by kernel_rfl) (fun _ _ _ h => h) (Or.inl ⟨by rfl, ?_⟩) (by assumption) ?_
          rotate_left
          · (intro w' hSw; (try dsimp only at hSw); go_simp; (try with_reducible rfl))
          (try simp only [Act.put, List.setIfInBounds_toArray, List.set_cons_zero, List.set_cons_succ, List.getElem_toArray, List.getElem_cons_zero, List.getElem_cons_succ])
          refine wpAnyH_take (i := 2) (oi := _) (v := ?_) rfl (by kernel_rfl) (by kernel_rfl) (by kernel_rfl) (fun _ _ _ h => h) (Or.inl ⟨by rfl, ?_⟩) (by assumption) ?_
          rotate_left
          · (intro w' hSw; (try dsimp only at hSw); go_simp; (try with_reducible rfl))
          (try simp only [Act.put, List.setIfInBounds_toArray, List.set_cons_zero, List.set_cons_succ, List.getElem_toArray, List.getElem_cons_zero, List.getElem_cons_succ])
          refine wpAnyH_take (i := 3) (oi := _) (v := ?_) rfl (by kernel_rfl) (by kernel_rfl) (by kernel_rfl) (fun _ _ _ h => h) (Or.inl ⟨by rfl, ?_⟩) (by assumption) ?_
          rotate_left
          · (intro w' hSw; (try dsimp only at hSw); go_simp; (try with_reducible rfl))
          (try simp only [Act.put, List.setIfInBounds_toArray, List.set_cons_zero, List.set_cons_succ, List.getElem_toArray, List.getElem_cons_zero, List.getElem_cons_succ])
          refine wpAnyH_take (i := 4) (oi := _) (v := ?_) rfl (by kernel_rfl) (by kernel_rfl) (by kernel_rfl) (fun _ _ _ h => h) (Or.inl ⟨by rfl, ?_⟩) (by assumption) ?_
          rotate_left
          · (intro w' hSw; (try dsimp only at hSw); go_simp; (try with_reducible rfl))
          (try simp only [Act.put, List.setIfInBounds_toArray, List.set_cons_zero, List.set_cons_succ, List.getElem_toArray, List.getElem_cons_zero, List.getElem_cons_succ])
          refine wpAnyH_take (i := 5) (oi := _) (v := ?_) rfl (by kernel_rfl) (by kernel_rfl) (by kernel_rfl) (fun _ _ _ h => h) (Or.inl ⟨by rfl, ?_⟩) (by assumption) ?_
          rotate_left
          · (intro w' hSw; (try dsimp only at hSw); go_simp; (try with_reducible rfl))
          (try simp only [Act.put, List.setIfInBounds_toArray, List.set_cons_zero, List.set_cons_succ, List.getElem_toArray, List.getElem_cons_zero, List.getElem_cons_succ])
          refine wpAnyH_take (i := 6) (oi := _) (v := ?_) rfl (by kernel_rfl) (by kernel_rfl) (by kernel_rfl) (fun _ _ _ h => h) (Or.inl ⟨by rfl, ?_⟩) (by assumption) ?_
          rotate_left
          · (intro w' hSw; (try dsimp only at hSw); go_simp; (try with_reducible rfl))
          (try simp only [Act.put, List.setIfInBounds_toArray, List.set_cons_zero, List.set_cons_succ, List.getElem_toArray, List.getElem_cons_zero, List.getElem_cons_succ])
          refine wpAnyH_ready (rs := [1, 7]) (by kernel_rfl) (by simp) ?_
          refine AllReadyH.cons (o := _) rfl (fun K hK => ?_) ?_
          · go_simp
            refine hK.out _ _ hHeld (fun hHeld2 => ?_)
            clear hK K hHeld
            have hHeld := hHeld2
            clear hHeld2
            (try simp only [Act.put, List.setIfInBounds_toArray, List.set_cons_zero, List.set_cons_succ, List.getElem_toArray, List.getElem_cons_zero, List.getElem_cons_succ])
            refine wpAnyH_ready (rs := [7]) (by kernel_rfl) (by simp) ?_
            refine AllReadyH.cons (o := _) rfl (fun K hK => ?_) ?_
            · go_simp
              refine hK.out _ _ ⟨((bl_alloc (Below.refl _ _) _).cell (p := ⟨w.heap.size, 2, none⟩) ya).trans Y02, ((bl_alloc (Below.refl _ _) _).cell (p := ⟨b, o + k * 2, none⟩) hb).trans e0, ((bl_alloc (Below.refl _ _) _).cell (p := ⟨b, o + k * 2 + 1, none⟩) hb).trans e1⟩ (fun hHeld2 => ?_)
              clear hK K hHeld
              have hHeld := hHeld2
              clear hHeld2
              (try simp only [Act.put, List.setIfInBounds_toArray, List.set_cons_zero, List.set_cons_succ, List.getElem_toArray, List.getElem_cons_zero, List.getElem_cons_succ])
              refine wpAnyH_ready (rs := [8]) (by kernel_rfl) (by simp) ?_
              refine AllReadyH.cons (o := _) rfl (fun K hK => ?_) ?_
              · (refine step_app_P1 _ (by rfl) _ _ (by rfl) (D + 1) v (wosN lc lh m k) (by rfl) hst.ow wr.heap.size (gP lc k).1 (gP lc k).2 (by rfl) (by simp [go_sem]) (by simp [go_sem]) (by omega) (by simp; omega) ?_; intro A2 m2 c2 w2' ow2 bb gr at2; have cD := (bb.cell (p := ⟨D, 2, none⟩) (by simp)).trans hst.dv; have fD := (bb.frozen (p := ⟨D, 2, none⟩) (by simp)).trans hst.fv; have u0 := (bb.cell (p := ⟨w.heap.size, 2, none⟩) (by first | omega | (simp; omega))).trans (show _ = _ from ((bl_alloc (Below.refl _ _) _).cell (p := ⟨w.heap.size, 2, none⟩) ya).trans Y02); have u1 := (bb.cell (p := ⟨b, o + k * 2, none⟩) (by first | omega | (simp; omega))).trans (show _ = _ from ((bl_alloc (Below.refl _ _) _).cell (p := ⟨b, o + k * 2, none⟩) hb).trans e0); have u2 := (bb.cell (p := ⟨b, o + k * 2 + 1, none⟩) (by first | omega | (simp; omega))).trans (show _ = _ from ((bl_alloc (Below.refl _ _) _).cell (p := ⟨b, o + k * 2 + 1, none⟩) hb).trans e1))
                refine hK.out _ _ ⟨u0, u1, u2⟩ (fun hHeld2 => ?_)
                clear hK K hHeld
                have hHeld := hHeld2
                clear hHeld2
                (try simp only [Act.put, List.setIfInBounds_toArray, List.set_cons_zero, List.set_cons_succ, List.getElem_toArray, List.getElem_cons_zero, List.getElem_cons_succ])
                refine wpAnyH_ready (rs := [9]) (by kernel_rfl) (by simp) ?_
                refine AllReadyH.cons (o := _) rfl (fun K hK => ?_) ?_
                · go_simp
                  refine hK.out _ _ hHeld (fun hHeld2 => ?_)
                  clear hK K hHeld
                  have hHeld := hHeld2
                  clear hHeld2
                  (try simp only [Act.put, List.setIfInBounds_toArray, List.set_cons_zero, List.set_cons_succ, List.getElem_toArray, List.getElem_cons_zero, List.getElem_cons_succ])
                  refine wpAnyH_ready (rs := [10]) (by kernel_rfl) (by simp) ?_
                  refine AllReadyH.cons (o := _) rfl (fun K hK => ?_) ?_
                  · go_simp
                    refine hK.out _ _ ⟨cell_onew u0 (by omega), cell_onew u1 (by omega), cell_onew u2 (by omega)⟩ (fun hHeld2 => ?_)
                    clear hK K hHeld
                    have hHeld := hHeld2
                    clear hHeld2
                    (try simp only [Act.put, List.setIfInBounds_toArray, List.set_cons_zero, List.set_cons_succ, List.getElem_toArray, List.getElem_cons_zero, List.getElem_cons_succ])
                    refine wpAnyH_done (by kernel_rfl) ?_ _
                    go_wp2
                    go_roundw
                    case rel => exact ⟨k + 1, _, by omega, by go_num, by rw [hh2.out]; exact hst.app (_, _) bb ow2⟩
                    case measure => simp [intOf]; omega
                  exact AllReadyH.nil
                exact AllReadyH.nil
              exact AllReadyH.nil
            exact AllReadyH.nil
          refine AllReadyH.cons (o := _) rfl (fun K hK => ?_) ?_
          · go_simp
            refine hK.out _ _ ⟨((bl_alloc (Below.refl _ _) _).cell (p := ⟨w.heap.size, 2, none⟩) ya).trans Y02, ((bl_alloc (Below.refl _ _) _).cell (p := ⟨b, o + k * 2, none⟩) hb).trans e0, ((bl_alloc (Below.refl _ _) _).cell (p := ⟨b, o + k * 2 + 1, none⟩) hb).trans e1⟩ (fun hHeld2 => ?_)
            clear hK K hHeld
            have hHeld := hHeld2
            clear hHeld2
            (try simp only [Act.put, List.setIfInBounds_toArray, List.set_cons_zero, List.set_cons_succ, List.getElem_toArray, List.getElem_cons_zero, List.getElem_cons_succ])
            refine wpAnyH_ready (rs := [1]) (by kernel_rfl) (by simp) ?_
            refine AllReadyH.cons (o := _) rfl (fun K hK => ?_) ?_
            · go_simp
              refine hK.out _ _ hHeld (fun hHeld2 => ?_)
              clear hK K hHeld
              have hHeld := hHeld2
              clear hHeld2
              (try simp only [Act.put, List.setIfInBounds_toArray, List.set_cons_zero, List.set_cons_succ, List.getElem_toArray, List.getElem_cons_zero, List.getElem_cons_succ])
              refine wpAnyH_ready (rs := [8]) (by kernel_rfl) (by simp) ?_
              refine AllReadyH.cons (o := _) rfl (fun K hK => ?_) ?_
              · (refine step_app_P1 _ (by rfl) _ _ (by rfl) (D + 1) v (wosN lc lh m k) (by rfl) hst.ow wr.heap.size (gP lc k).1 (gP lc k).2 (by rfl) (by simp [go_sem]) (by simp [go_sem]) (by omega) (by simp; omega) ?_; intro A2 m2 c2 w2' ow2 bb gr at2; have cD := (bb.cell (p := ⟨D, 2, none⟩) (by simp)).trans hst.dv; have fD := (bb.frozen (p := ⟨D, 2, none⟩) (by simp)).trans hst.fv; have u0 := (bb.cell (p := ⟨w.heap.size, 2, none⟩) (by first | omega | (simp; omega))).trans (show _ = _ from ((bl_alloc (Below.refl _ _) _).cell (p := ⟨w.heap.size, 2, none⟩) ya).trans Y02); have u1 := (bb.cell (p := ⟨b, o + k * 2, none⟩) (by first | omega | (simp; omega))).trans (show _ = _ from ((bl_alloc (Below.refl _ _) _).cell (p := ⟨b, o + k * 2, none⟩) hb).trans e0); have u2 := (bb.cell (p := ⟨b, o + k * 2 + 1, none⟩) (by first | omega | (simp; omega))).trans (show _ = _ from ((bl_alloc (Below.refl _ _) _).cell (p := ⟨b, o + k * 2 + 1, none⟩) hb).trans e1))
                refine hK.out _ _ ⟨u0, u1, u2⟩ (fun hHeld2 => ?_)
                clear hK K hHeld
                have hHeld := hHeld2
                clear hHeld2
                (try simp only [Act.put, List.setIfInBounds_toArray, List.set_cons_zero, List.set_cons_succ, List.getElem_toArray, List.getElem_cons_zero, List.getElem_cons_succ])
                refine wpAnyH_ready (rs := [9]) (by kernel_rfl) (by simp) ?_
                refine AllReadyH.cons (o := _) rfl (fun K hK => ?_) ?_
                · go_simp
                  refine hK.out _ _ hHeld (fun hHeld2 => ?_)
                  clear hK K hHeld
                  have hHeld := hHeld2
                  clear hHeld2
                  (try simp only [Act.put, List.setIfInBounds_toArray, List.set_cons_zero, List.set_cons_succ, List.getElem_toArray, List.getElem_cons_zero, List.getElem_cons_succ])
                  refine wpAnyH_ready (rs := [10]) (by kernel_rfl) (by simp) ?_
                  refine AllReadyH.cons (o := _) rfl (fun K hK => ?_) ?_
                  · go_simp
                    refine hK.out _ _ ⟨cell_onew u0 (by omega), cell_onew u1 (by omega), cell_onew u2 (by omega)⟩ (fun hHeld2 => ?_)
                    clear hK K hHeld
                    have hHeld := hHeld2
                    clear hHeld2
                    (try simp only [Act.put, List.setIfInBounds_toArray, List.set_cons_zero, List.set_cons_succ, List.getElem_toArray, List.getElem_cons_zero, List.getElem_cons_succ])
                    refine wpAnyH_done (by kernel_rfl) ?_ _
                    go_wp2
                    go_roundw
                    case rel => exact ⟨k + 1, _, by omega, by go_num, by rw [hh2.out]; exact hst.app (_, _) bb ow2⟩
                    case measure => simp [intOf]; omega
                  exact AllReadyH.nil
                exact AllReadyH.nil
              exact AllReadyH.nil
            exact AllReadyH.nil
          exact AllReadyH.nil
        · have hh2 := Lib.hid (wosN_no (l := lc) hs)
          go_wp2
          go_roundw
          case rel => exact ⟨k + 1, v, by omega, by go_num, by rw [hh2.out]; exact h⟩
          case measure => simp [intOf]; omega
      · have hlt' : ¬ (k : Int) < (lc.length : Int) := by omega
        obtain rfl : k = lc.length := by omega
        have Z0 := (h.bel.cell (p := ⟨w.heap.size + 2, 0, none⟩) (by simp; omega)).trans Q0
        have Z1 := (h.bel.cell (p := ⟨w.heap.size + 2, 1, none⟩) (by simp; omega)).trans Q1
        have Z2 := (h.bel.cell (p := ⟨w.heap.size + 2, 2, none⟩) (by simp; omega)).trans Q2
        have Y02 := (h.bel.cell (p := ⟨w.heap.size, 2, none⟩) (by simp; omega)).trans X02
        have F0 := (h.bel.frozen (p := ⟨w.heap.size + 2, 0, none⟩) (by simp; omega)).trans P0
        have F1 := (h.bel.frozen (p := ⟨w.heap.size + 2, 1, none⟩) (by simp; omega)).trans P1
        have F2 := (h.bel.frozen (p := ⟨w.heap.size + 2, 2, none⟩) (by simp; omega)).trans P2
        have T0 := h.d0
        have T1 := h.d1
        have T2 := h.dv
        have ow := h.ow
        clear X02 X10 Q0 Q1 Q2 P0 P1 P2 h
        obtain ⟨A, c, rfl⟩ := own_form ow
        go_wp2
        exact bodyPost_ret (v := .tuple #[.agg #[.int .i64 st, .int .i64 tr, .slice A (wosN lc lh m lc.length).length c], .bool true]) (by simp [results, Try.results65, go_sem, Z0, Z1, Z2, T0, T1, T2]) rfl ⟨A, c, rfl, own_lo (ownsRow_setCell_below (ownsRow_setCell_below (ownsRow_setCell_below ow (by simp; omega) _) (by simp; omega) _) (by simp; omega) _) (by omega), bl_set (bl_set (bl_set belr (by (first | omega | (simp; done) | (simp; omega))) _) (by (first | omega | (simp; done) | (simp; omega))) _) (by (first | omega | (simp; done) | (simp; omega))) _⟩
end Go.Proofs.Ytoijjjaodfincaa
