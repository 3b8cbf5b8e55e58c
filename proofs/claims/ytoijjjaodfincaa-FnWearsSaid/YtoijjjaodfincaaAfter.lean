/- AfterTurns of the program; lengths up to 2^20. -/
import Derived.Test.YtoijjjaodfincaaRenew
namespace Go.Proofs.Ytoijjjaodfincaa
open Go.RowKit

/-- each height less by d, none below 0: the first k places -/
def aftN (l : List Int) (d : Int) (k : Nat) : List Int := setsL l (fun i => i) (fun i => if d < gi l i then gi l i - d else 0) k
theorem aftN_len (l : List Int) (d : Int) (k : Nat) : (aftN l d k).length = l.length := setsL_len _ _ _ _
theorem gi_set_ne {l : List Int} {k j : Nat} (x : Int) (h : k ≠ j) : gi (l.set k x) j = gi l j := by
  simp [gi, List.getElem?_set_ne h]
theorem gi_set_eq {l : List Int} {k : Nat} (x : Int) (h : k < l.length) : gi (l.set k x) k = x := by
  simp [gi, List.getElem?_set_self h]
theorem aftN_ge (l : List Int) (d : Int) {k j : Nat} (h : k ≤ j) : gi (aftN l d k) j = gi l j := by
  induction k with
  | zero => rfl
  | succ k ih =>
    show gi ((aftN l d k).set k _) j = _
    rw [gi_set_ne _ (by omega)]
    exact ih (by omega)
theorem aftN_lt (l : List Int) (d : Int) {k j : Nat} (h : j < k) (hk : k ≤ l.length) : gi (aftN l d k) j = if d < gi l j then gi l j - d else 0 := by
  induction k with
  | zero => omega
  | succ k ih =>
    show gi ((aftN l d k).set k _) j = _
    by_cases e : k = j
    · subst e
      exact gi_set_eq _ (by rw [aftN_len]; omega)
    · rw [gi_set_ne _ e]
      exact ih (by omega) (by omega)
def aftF (n : Int) (l : List Int) (t : Int) : List Int := if wearB n l && inB t 0 1000 then aftN l (n * t) l.length else l
theorem aftF_len (n : Int) (l : List Int) (t : Int) : (aftF n l t).length = l.length := by
  unfold aftF
  split
  · exact aftN_len _ _ _
  · rfl

set_option maxHeartbeats 1600000 in
theorem afterI_any (n : Int) (v : Value) (l : List Int) (t : Int) (w : World) (h1 : RdI w v l) (hl : l.length ≤ 1048576) :
    Calls Try.prog 50 #[.agg #[v, .int .i64 n], .int .i64 t] w (NewWear n (aftF n l t) w) := by
  cases ho : (wearB n l && inB t 0 1000)
  · have hF : aftF n l t = l := by simp only [aftF, ho]; rfl
    rw [hF]
    clear hF
    cases hw : wearB n l
    rotate_left
    have hm : inB t 0 1000 = false := by simpa [hw] using ho
    all_goals
      go_enter Try.func50, Try.ntmps50
      go_wp2_with (first | ((go_at_call 76; refine (copyWear_any _ _ l _ (h1.bl (by (repeat' (first | (with_reducible exact Below.refl _ _) | (with_reducible refine bl_alloc ?_ _) | (with_reducible refine bl_drewN ?_ _) | (with_reducible refine bl_drew ?_) | (with_reducible assumption) | (with_reducible refine bl_to ?_ (by assumption)) | (with_reducible refine Below.trans ?_ (by assumption)) | (with_reducible refine Below.trans ?_ (Below.mono (by assumption) ?_)) | (with_reducible refine bl_set ?_ ?_ _) | (simp; done) | (simp; omega) | omega)))) hl).mono ?_; rintro e w1 ⟨A1, c1, rfl, ow1, b1⟩; obtain ⟨k1, f1, z1⟩ := bcell b1); have y1 : w.heap.size < w1.heap.size := z1 _ (by (first | omega | (simp; done) | (simp; omega))); have y1' : w.heap.size + 1 < w1.heap.size := z1 _ (by (first | omega | (simp; done) | (simp; omega)))) | ((go_at_call 54; refine (wearI_ok _ _ l _ (h1.bl (by (repeat' (first | (with_reducible exact Below.refl _ _) | (with_reducible refine bl_alloc ?_ _) | (with_reducible refine bl_drewN ?_ _) | (with_reducible refine bl_drew ?_) | (with_reducible assumption) | (with_reducible refine bl_to ?_ (by assumption)) | (with_reducible refine Below.trans ?_ (by assumption)) | (with_reducible refine Below.trans ?_ (Below.mono (by assumption) ?_)) | (with_reducible refine bl_set ?_ ?_ _) | (simp; done) | (simp; omega) | omega)))) hl).mono ?_; rintro e w2 ⟨rfl, b2⟩; obtain ⟨k2, f2, z2⟩ := bcell b2); have q1 : w2.cell? ⟨w.heap.size + 1, 0, none⟩ = some (.slice none 0 0) := (k2 _ _ (by (first | omega | (simp; done) | (simp; omega)))).trans (by simp [go_sem, k1, y1']); have q2 : w2.cell? ⟨w.heap.size + 1, 1, none⟩ = some (.int .i64 0) := (k2 _ _ (by (first | omega | (simp; done) | (simp; omega)))).trans (by simp [go_sem, k1, y1'])) | (go_at_call 68; refine (within_any _ _ _ _).mono ?_; rintro e w' ⟨rfl, rfl⟩))
      exact bodyPost_ret (v := .agg #[.slice A1 l.length c1, .int .i64 n]) (by simp [results, Try.results50, go_sem, q1, q2]) rfl ⟨_, _, rfl, by (apply own_lo; repeat' (first | (with_reducible assumption) | (with_reducible apply ownsRow_setCell_below) | (with_reducible apply World.ownsRow.alloc) | (with_reducible apply own_drewN) | (with_reducible apply World.ownsRow.drew) | (with_reducible apply own_bl2) | (simp; done) | (simp; omega) | omega)), by (repeat' (first | (with_reducible exact Below.refl _ _) | (with_reducible refine bl_alloc ?_ _) | (with_reducible refine bl_drewN ?_ _) | (with_reducible refine bl_drew ?_) | (with_reducible assumption) | (with_reducible refine bl_to ?_ (by assumption)) | (with_reducible refine Below.trans ?_ (by assumption)) | (with_reducible refine Below.trans ?_ (Below.mono (by assumption) ?_)) | (with_reducible refine bl_set ?_ ?_ _) | (simp; done) | (simp; omega) | omega))⟩
  · have hF : aftF n l t = aftN l (n * t) l.length := by simp only [aftF, ho]; rfl
    rw [hF]
    clear hF
    obtain ⟨hw, ht⟩ : wearB n l = true ∧ inB t 0 1000 = true := by simpa using ho
    obtain ⟨wl, ⟨n1, n2⟩, wa⟩ := wearB_iff hw
    obtain ⟨t1, t2⟩ := inB_iff.1 ht
    have hall : ∀ k, k < l.length → 0 ≤ gi l k ∧ gi l k ≤ 1000 := fun k hk => inB_iff.1 (by have := List.all_eq_true.1 wa _ (gi_mem hk); exact this)
    clear wa
    obtain ⟨A0, c0, rfl, hc0, hm0⟩ := h1.form
    have hd0 : 0 ≤ n * t := Int.mul_nonneg (by omega) t1
    have hd1 : n * t ≤ 20 * 1000 := Int.mul_le_mul n2 t2 t1 (by omega)
    go_enter Try.func50, Try.ntmps50
    go_wp2_with (first | ((go_at_call 76; refine (copyWear_any _ _ l _ (h1.bl (by (repeat' (first | (with_reducible exact Below.refl _ _) | (with_reducible refine bl_alloc ?_ _) | (with_reducible refine bl_drewN ?_ _) | (with_reducible refine bl_drew ?_) | (with_reducible assumption) | (with_reducible refine bl_to ?_ (by assumption)) | (with_reducible refine Below.trans ?_ (by assumption)) | (with_reducible refine Below.trans ?_ (Below.mono (by assumption) ?_)) | (with_reducible refine bl_set ?_ ?_ _) | (simp; done) | (simp; omega) | omega)))) hl).mono ?_; rintro e w1 ⟨A1, c1, rfl, ow1, b1⟩; obtain ⟨k1, f1, z1⟩ := bcell b1); have y1 : w.heap.size < w1.heap.size := z1 _ (by (first | omega | (simp; done) | (simp; omega))); have y1' : w.heap.size + 1 < w1.heap.size := z1 _ (by (first | omega | (simp; done) | (simp; omega)))) | ((go_at_call 54; refine (wearI_ok _ _ l _ (h1.bl (by (repeat' (first | (with_reducible exact Below.refl _ _) | (with_reducible refine bl_alloc ?_ _) | (with_reducible refine bl_drewN ?_ _) | (with_reducible refine bl_drew ?_) | (with_reducible assumption) | (with_reducible refine bl_to ?_ (by assumption)) | (with_reducible refine Below.trans ?_ (by assumption)) | (with_reducible refine Below.trans ?_ (Below.mono (by assumption) ?_)) | (with_reducible refine bl_set ?_ ?_ _) | (simp; done) | (simp; omega) | omega)))) hl).mono ?_; rintro e w2 ⟨rfl, b2⟩; obtain ⟨k2, f2, z2⟩ := bcell b2); have y2 : w1.heap.size < w2.heap.size := z2 _ (by (first | omega | (simp; done) | (simp; omega)))) | (go_at_call 68; refine (within_any _ _ _ _).mono ?_; rintro e w' ⟨rfl, rfl⟩))
    have hA : 0 < l.length → ∃ g, A1 = some ⟨g, 0, none⟩ ∧ w.heap.size + 2 ≤ g ∧ g < w1.heap.size := fun hp => by
      obtain ⟨g, e, g1, g2⟩ := own_head ow1 hp
      simp only [World.size_alloc] at g1
      exact ⟨g, e, g1, g2⟩
    have x1 : w2.cell? ⟨w.heap.size, 1, none⟩ = some (.int .i64 n) := (k2 _ _ (by (first | omega | (simp; done) | (simp; omega)))).trans (by simp [go_sem, k1, y1])
    have x2 : w2.cell? ⟨w1.heap.size, 0, none⟩ = some (.slice A1 l.length c1) := (k2 _ _ (by (first | omega | (simp; done) | (simp; omega)))).trans (by simp [go_sem])
    have x3 : w2.cell? ⟨w1.heap.size, 1, none⟩ = some (.int .i64 n) := (k2 _ _ (by (first | omega | (simp; done) | (simp; omega)))).trans (by simp [go_sem])
    have q1 : w2.cell? ⟨w.heap.size + 1, 0, none⟩ = some (.slice none 0 0) := (k2 _ _ (by (first | omega | (simp; done) | (simp; omega)))).trans (by simp [go_sem, k1, y1'])
    have q2 : w2.cell? ⟨w.heap.size + 1, 1, none⟩ = some (.int .i64 0) := (k2 _ _ (by (first | omega | (simp; done) | (simp; omega)))).trans (by simp [go_sem, k1, y1'])
    have x4 : w2.frozen? ⟨w.heap.size + 1, 0, none⟩ = false := (f2 _ _ (by (first | omega | (simp; done) | (simp; omega)))).trans (by simp [go_sem, f1, y1'])
    have x5 : w2.frozen? ⟨w.heap.size + 1, 1, none⟩ = false := (f2 _ _ (by (first | omega | (simp; done) | (simp; omega)))).trans (by simp [go_sem, f1, y1'])
    have ow : w2.ownsRow (w.heap.size + 2) 3 1 (.slice A1 l.length c1) l.length (cI l) := by (apply own_lo; repeat' (first | (with_reducible assumption) | (with_reducible apply ownsRow_setCell_below) | (with_reducible apply World.ownsRow.alloc) | (with_reducible apply own_drewN) | (with_reducible apply World.ownsRow.drew) | (with_reducible apply own_bl2) | (simp; done) | (simp; omega) | omega))
    have bel2 : Below w.heap.size w w2 := by (repeat' (first | (with_reducible exact Below.refl _ _) | (with_reducible refine bl_alloc ?_ _) | (with_reducible refine bl_drewN ?_ _) | (with_reducible refine bl_drew ?_) | (with_reducible assumption) | (with_reducible refine bl_to ?_ (by assumption)) | (with_reducible refine Below.trans ?_ (by assumption)) | (with_reducible refine Below.trans ?_ (Below.mono (by assumption) ?_)) | (with_reducible refine bl_set ?_ ?_ _) | (simp; done) | (simp; omega) | omega))
    clear k2 f2 z2 k1 f1 z1 ow1 b1 b2 h1
    go_loopw [21] (fun i wr => ∃ k : Nat, k ≤ l.length ∧ i = .int .i64 k ∧ Below w.heap.size w wr ∧ wr.ownsRow (w.heap.size + 2) 3 1 (.slice A1 l.length c1) l.length (cI (aftN l (n * t) k)) ∧ wr.cell? ⟨w.heap.size + 1, 0, none⟩ = some (.slice none 0 0) ∧ wr.cell? ⟨w.heap.size + 1, 1, none⟩ = some (.int .i64 0) ∧ wr.cell? ⟨w.heap.size, 1, none⟩ = some (.int .i64 n) ∧ wr.cell? ⟨w1.heap.size, 0, none⟩ = some (.slice A1 l.length c1) ∧ wr.cell? ⟨w1.heap.size, 1, none⟩ = some (.int .i64 n) ∧ wr.frozen? ⟨w.heap.size + 1, 0, none⟩ = false ∧ wr.frozen? ⟨w.heap.size + 1, 1, none⟩ = false) (fun i _ => l.length - (intOf i).toNat)
    case atStart => exact ⟨0, Nat.zero_le _, rfl, bel2, ow, q1, q2, x1, x2, x3, x4, x5⟩
    case round =>
      clear q1 q2 x1 x2 x3 x4 x5 ow bel2
      obtain ⟨k, hk, rfl, bel, ow, q1, q2, x1, x2, x3, x4, x5⟩ := hrel
      have RL := Lib.hid (aftN_len l (n * t) k)
      by_cases hlt : k < l.length
      · have hlt' : (k : Int) < (l.length : Int) := by omega
        obtain ⟨g, rfl, ga, gb⟩ := hA (by omega)
        obtain ⟨a0, a1⟩ := hall k hlt
        have e2 : wr.cell? ⟨g, k, none⟩ = some (.int .i64 (gi l k)) := (ow.cellAt k (by omega)).trans (by rw [← aftN_ge l (n * t) (Nat.le_refl k)]; exact cI_get (by rw [RL.out]; omega))
        have st := ow.stored k (.int .i64 (if n * t < gi l k then gi l k - n * t else 0))
        have ow' := st.1
        rw [cI_set] at ow'
        have HR := Lib.hid (show aftN l (n * t) (k + 1) = (aftN l (n * t) k).set k (if n * t < gi l k then gi l k - n * t else 0) from rfl)
        have e3 := ow.frozenAt k
        have bel' : Below w.heap.size w (wr.setCell ⟨g, k, none⟩ (.int .i64 (if n * t < gi l k then gi l k - n * t else 0))).drew := bl_drew (bl_set bel (by simp; omega) _)
        clear st
        go_wp2
        go_region
        go_wp2
        go_roundw
        case rel => exact ⟨k + 1, by omega, by go_num, bel', by rw [HR.out]; exact ow', cell_off q1 (by omega), cell_off q2 (by omega), cell_off x1 (by omega), cell_off x2 (by omega), cell_off x3 (by omega), froz_off x4 (by omega), froz_off x5 (by omega)⟩
        case measure => simp [intOf]; omega
      · obtain rfl : k = l.length := by omega
        go_wp2
        exact bodyPost_ret (v := .agg #[.slice A1 (aftN l (n * t) l.length).length c1, .int .i64 n]) (by simp [results, Try.results50, go_sem, q1, q2, RL.out]) rfl ⟨_, _, rfl, by rw [RL.out]; (apply own_lo; repeat' (first | (with_reducible assumption) | (with_reducible apply ownsRow_setCell_below) | (with_reducible apply World.ownsRow.alloc) | (with_reducible apply own_drewN) | (with_reducible apply World.ownsRow.drew) | (with_reducible apply own_bl2) | (simp; done) | (simp; omega) | omega)), by (repeat' (first | (with_reducible exact Below.refl _ _) | (with_reducible refine bl_alloc ?_ _) | (with_reducible refine bl_drewN ?_ _) | (with_reducible refine bl_drew ?_) | (with_reducible assumption) | (with_reducible refine bl_to ?_ (by assumption)) | (with_reducible refine Below.trans ?_ (by assumption)) | (with_reducible refine Below.trans ?_ (Below.mono (by assumption) ?_)) | (with_reducible refine bl_set ?_ ?_ _) | (simp; done) | (simp; omega) | omega))⟩
end Go.Proofs.Ytoijjjaodfincaa
