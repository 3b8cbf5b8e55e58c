/- Renewed of the program and of the reference; lengths up to 2^20. -/
import Derived.Test.YtoijjjaodfincaaWear2
import Derived.Test.YtoijjjaodfincaaTurn
namespace Go.Proofs.Ytoijjjaodfincaa
open Go.RowKit

/-- l with h at the first k places that s names -/
def renN (l s : List Int) (h : Int) : Nat → List Int
  | 0 => l
  | k + 1 => (renN l s h k).set (gi s k).toNat h
theorem renN_len (l s : List Int) (h : Int) (k : Nat) : (renN l s h k).length = l.length := by
  induction k with
  | zero => rfl
  | succ k ih => simp [renN, ih]
def renB (n : Int) (l : List Int) (m h : Int) : Bool := wearB n l && inB m 0 1000 && inB h 0 1000
def renF (n : Int) (l : List Int) (m h : Int) : List Int := if renB n l m h then renN l (silF n l m) h (silF n l m).length else l
def renQ (n : Int) (l : List Int) (m h : Int) : Int := if renB n l m h then (silF n l m).length else -1
theorem renF_len (n : Int) (l : List Int) (m h : Int) : (renF n l m h).length = l.length := by
  unfold renF
  split
  · exact renN_len _ _ _ _
  · rfl
theorem silN_mem {l : List Int} {m : Int} {k : Nat} {x : Int} (h : x ∈ silN l m k) : 0 ≤ x ∧ x < k := by
  induction k with
  | zero => simp [silN] at h
  | succ k ih =>
    unfold silN at h
    split at h
    · rw [List.mem_append, List.mem_singleton] at h
      rcases h with h | h
      · have := ih h; omega
      · subst h; omega
    · have := ih h; omega
theorem silF_mem {n : Int} {l : List Int} {m x : Int} (h : x ∈ silF n l m) : 0 ≤ x ∧ x < l.length := by
  unfold silF at h
  split at h
  · exact silN_mem h
  · simp at h

theorem cell_off {w : World} {g j b o : Nat} {u v : Value} (h : w.cell? ⟨b, o, none⟩ = some v) (hne : b ≠ g) : (w.setCell ⟨g, j, none⟩ u).cell? ⟨b, o, none⟩ = some v :=
  (World.cell?_setCell_other w ⟨g, j, none⟩ ⟨b, o, none⟩ u (by intro e; have := congrArg Addr.block e; simp at this; omega)).trans h
theorem froz_off {w : World} {g j b o : Nat} {u : Value} {c : Bool} (h : w.frozen? ⟨b, o, none⟩ = c) (hne : b ≠ g) : (w.setCell ⟨g, j, none⟩ u).frozen? ⟨b, o, none⟩ = c :=
  (World.frozen?_of_block (Below.heap_setCell w ⟨g, j, none⟩ u b hne)).trans h
def NewWear2 (n : Int) (l : List Int) (q : Int) (w : World) (en : Ending) (w' : World) : Prop :=
  ∃ A c, en = .returned (.tuple #[.agg #[.slice A l.length c, .int .i64 n], .int .i64 q]) ∧ w'.ownsRow w.heap.size 3 1 (.slice A l.length c) l.length (cI l) ∧ Below w.heap.size w w'

set_option maxHeartbeats 1600000 in
theorem renI_any (n : Int) (v : Value) (l : List Int) (m h : Int) (w : World) (h1 : RdI w v l) (hl : l.length ≤ 1048576) :
    Calls Try.prog 37 #[.agg #[v, .int .i64 n], .int .i64 m, .int .i64 h] w (NewWear2 n (renF n l m h) (renQ n l m h) w) := by
  cases ho : renB n l m h
  · have hF : renF n l m h = l := by simp [renF, ho]
    have hQ : renQ n l m h = -1 := by simp [renQ, ho]
    rw [hF, hQ]
    clear hF hQ
    cases hw : wearB n l
    rotate_left
    cases hm : inB m 0 1000
    rotate_left
    have hh : inB h 0 1000 = false := by simpa [renB, hw, hm] using ho
    all_goals
      go_enter Try.func37, Try.ntmps37
      go_wp2_with (first | ((go_at_call 76; refine (copyWear_any _ _ l _ (h1.bl (by (repeat' (first | (with_reducible exact Below.refl _ _) | (with_reducible refine bl_alloc ?_ _) | (with_reducible refine bl_drewN ?_ _) | (with_reducible refine bl_drew ?_) | (with_reducible assumption) | (with_reducible refine bl_to ?_ (by assumption)) | (with_reducible refine Below.trans ?_ (by assumption)) | (with_reducible refine Below.trans ?_ (Below.mono (by assumption) ?_)) | (with_reducible refine bl_set ?_ ?_ _) | (simp; done) | (simp; omega) | omega)))) hl).mono ?_; rintro e w1 ⟨A1, c1, rfl, ow1, b1⟩; obtain ⟨k1, f1, z1⟩ := bcell b1); have y1 : w.heap.size < w1.heap.size := z1 _ (by (first | omega | (simp; done) | (simp; omega))); have y1' : w.heap.size + 1 < w1.heap.size := z1 _ (by (first | omega | (simp; done) | (simp; omega)))) | ((go_at_call 54; refine (wearI_ok _ _ l _ (h1.bl (by (repeat' (first | (with_reducible exact Below.refl _ _) | (with_reducible refine bl_alloc ?_ _) | (with_reducible refine bl_drewN ?_ _) | (with_reducible refine bl_drew ?_) | (with_reducible assumption) | (with_reducible refine bl_to ?_ (by assumption)) | (with_reducible refine Below.trans ?_ (by assumption)) | (with_reducible refine Below.trans ?_ (Below.mono (by assumption) ?_)) | (with_reducible refine bl_set ?_ ?_ _) | (simp; done) | (simp; omega) | omega)))) hl).mono ?_; rintro e w2 ⟨rfl, b2⟩; obtain ⟨k2, f2, z2⟩ := bcell b2); have q1 : w2.cell? ⟨w.heap.size + 1, 0, none⟩ = some (.slice none 0 0) := (k2 _ _ (by (first | omega | (simp; done) | (simp; omega)))).trans (by simp [go_sem, k1, y1']); have q2 : w2.cell? ⟨w.heap.size + 1, 1, none⟩ = some (.int .i64 0) := (k2 _ _ (by (first | omega | (simp; done) | (simp; omega)))).trans (by simp [go_sem, k1, y1'])) | (go_at_call 68; refine (within_any _ _ _ _).mono ?_; rintro e w' ⟨rfl, rfl⟩))
      exact bodyPost_ret (v := .tuple #[.agg #[.slice A1 l.length c1, .int .i64 n], .int .i64 (-1)]) (by simp [results, Try.results37, go_sem, q1, q2]) rfl ⟨_, _, rfl, by (apply own_lo; repeat' (first | (with_reducible assumption) | (with_reducible apply ownsRow_setCell_below) | (with_reducible apply World.ownsRow.alloc) | (with_reducible apply own_drewN) | (with_reducible apply World.ownsRow.drew) | (with_reducible apply own_bl2) | (simp; done) | (simp; omega) | omega)), by (repeat' (first | (with_reducible exact Below.refl _ _) | (with_reducible refine bl_alloc ?_ _) | (with_reducible refine bl_drewN ?_ _) | (with_reducible refine bl_drew ?_) | (with_reducible assumption) | (with_reducible refine bl_to ?_ (by assumption)) | (with_reducible refine Below.trans ?_ (by assumption)) | (with_reducible refine Below.trans ?_ (Below.mono (by assumption) ?_)) | (with_reducible refine bl_set ?_ ?_ _) | (simp; done) | (simp; omega) | omega))⟩
  · have hF : renF n l m h = renN l (silF n l m) h (silF n l m).length := by simp [renF, ho]
    have hQ : renQ n l m h = (silF n l m).length := by simp [renQ, ho]
    rw [hF, hQ]
    clear hF hQ
    obtain ⟨⟨hw, hm⟩, hh⟩ : (wearB n l = true ∧ inB m 0 1000 = true) ∧ inB h 0 1000 = true := by simpa [renB] using ho
    have hql := silF_len n l m
    have hmem : ∀ k, k < (silF n l m).length → 0 ≤ gi (silF n l m) k ∧ gi (silF n l m) k < l.length := fun k hk => silF_mem (gi_mem hk)
    obtain ⟨A0, c0, rfl, hc0, hm0⟩ := h1.form
    go_enter Try.func37, Try.ntmps37
    go_wp2_with (first | ((go_at_call 76; refine (copyWear_any _ _ l _ (h1.bl (by (repeat' (first | (with_reducible exact Below.refl _ _) | (with_reducible refine bl_alloc ?_ _) | (with_reducible refine bl_drewN ?_ _) | (with_reducible refine bl_drew ?_) | (with_reducible assumption) | (with_reducible refine bl_to ?_ (by assumption)) | (with_reducible refine Below.trans ?_ (by assumption)) | (with_reducible refine Below.trans ?_ (Below.mono (by assumption) ?_)) | (with_reducible refine bl_set ?_ ?_ _) | (simp; done) | (simp; omega) | omega)))) hl).mono ?_; rintro e w1 ⟨A1, c1, rfl, ow1, b1⟩; obtain ⟨k1, f1, z1⟩ := bcell b1); have y1 : w.heap.size < w1.heap.size := z1 _ (by (first | omega | (simp; done) | (simp; omega))); have y1' : w.heap.size + 1 < w1.heap.size := z1 _ (by (first | omega | (simp; done) | (simp; omega)))) | ((go_at_call 54; refine (wearI_ok _ _ l _ (h1.bl (by (repeat' (first | (with_reducible exact Below.refl _ _) | (with_reducible refine bl_alloc ?_ _) | (with_reducible refine bl_drewN ?_ _) | (with_reducible refine bl_drew ?_) | (with_reducible assumption) | (with_reducible refine bl_to ?_ (by assumption)) | (with_reducible refine Below.trans ?_ (by assumption)) | (with_reducible refine Below.trans ?_ (Below.mono (by assumption) ?_)) | (with_reducible refine bl_set ?_ ?_ _) | (simp; done) | (simp; omega) | omega)))) hl).mono ?_; rintro e w2 ⟨rfl, b2⟩; obtain ⟨k2, f2, z2⟩ := bcell b2); have y2 : w1.heap.size < w2.heap.size := z2 _ (by (first | omega | (simp; done) | (simp; omega)))) | (go_at_call 68; refine (within_any _ _ _ _).mono ?_; rintro e w' ⟨rfl, rfl⟩) | (go_at_call 49; refine (silI_any _ _ l _ _ (h1.bl (by (repeat' (first | (with_reducible exact Below.refl _ _) | (with_reducible refine bl_alloc ?_ _) | (with_reducible refine bl_drewN ?_ _) | (with_reducible refine bl_drew ?_) | (with_reducible assumption) | (with_reducible refine bl_to ?_ (by assumption)) | (with_reducible refine Below.trans ?_ (by assumption)) | (with_reducible refine Below.trans ?_ (Below.mono (by assumption) ?_)) | (with_reducible refine bl_set ?_ ?_ _) | (simp; done) | (simp; omega) | omega)))) hl).mono ?_; rintro e w3 ⟨A3, c3, rfl, ow3, b3⟩; obtain ⟨k3, f3, z3⟩ := bcell b3))
    have hA : 0 < (silF n l m).length → ∃ g, A1 = some ⟨g, 0, none⟩ ∧ w.heap.size + 2 ≤ g ∧ g < w1.heap.size := fun hp => by
      obtain ⟨g, e, g1, g2⟩ := own_head ow1 (by omega)
      simp only [World.size_alloc] at g1
      exact ⟨g, e, g1, g2⟩
    have x2 : w3.cell? ⟨w1.heap.size, 0, none⟩ = some (.slice A1 l.length c1) := (k3 _ _ (by (first | omega | (simp; done) | (simp; omega)))).trans ((k2 _ _ (by (first | omega | (simp; done) | (simp; omega)))).trans (by simp [go_sem]))
    have x3 : w3.cell? ⟨w1.heap.size, 1, none⟩ = some (.int .i64 n) := (k3 _ _ (by (first | omega | (simp; done) | (simp; omega)))).trans ((k2 _ _ (by (first | omega | (simp; done) | (simp; omega)))).trans (by simp [go_sem]))
    have q1 : w3.cell? ⟨w.heap.size + 1, 0, none⟩ = some (.slice none 0 0) := (k3 _ _ (by (first | omega | (simp; done) | (simp; omega)))).trans ((k2 _ _ (by (first | omega | (simp; done) | (simp; omega)))).trans (by simp [go_sem, k1, y1']))
    have q2 : w3.cell? ⟨w.heap.size + 1, 1, none⟩ = some (.int .i64 0) := (k3 _ _ (by (first | omega | (simp; done) | (simp; omega)))).trans ((k2 _ _ (by (first | omega | (simp; done) | (simp; omega)))).trans (by simp [go_sem, k1, y1']))
    have x4 : w3.frozen? ⟨w.heap.size + 1, 0, none⟩ = false := (f3 _ _ (by (first | omega | (simp; done) | (simp; omega)))).trans ((f2 _ _ (by (first | omega | (simp; done) | (simp; omega)))).trans (by simp [go_sem, f1, y1']))
    have x5 : w3.frozen? ⟨w.heap.size + 1, 1, none⟩ = false := (f3 _ _ (by (first | omega | (simp; done) | (simp; omega)))).trans ((f2 _ _ (by (first | omega | (simp; done) | (simp; omega)))).trans (by simp [go_sem, f1, y1']))
    have ow : w3.ownsRow (w.heap.size + 2) 3 1 (.slice A1 l.length c1) l.length (cI l) := by (apply own_lo; repeat' (first | (with_reducible assumption) | (with_reducible apply ownsRow_setCell_below) | (with_reducible apply World.ownsRow.alloc) | (with_reducible apply own_drewN) | (with_reducible apply World.ownsRow.drew) | (with_reducible apply own_bl2) | (simp; done) | (simp; omega) | omega))
    have bel3 : Below w.heap.size w w3 := by (repeat' (first | (with_reducible exact Below.refl _ _) | (with_reducible refine bl_alloc ?_ _) | (with_reducible refine bl_drewN ?_ _) | (with_reducible refine bl_drew ?_) | (with_reducible assumption) | (with_reducible refine bl_to ?_ (by assumption)) | (with_reducible refine Below.trans ?_ (by assumption)) | (with_reducible refine Below.trans ?_ (Below.mono (by assumption) ?_)) | (with_reducible refine bl_set ?_ ?_ _) | (simp; done) | (simp; omega) | omega))
    clear k3 f3 z3 k2 f2 z2 k1 f1 z1 ow1 b1 b2 b3 h1
    go_loopw [33] (fun i wr => ∃ k : Nat, k ≤ (silF n l m).length ∧ i = .int .i64 k ∧ Below w.heap.size w wr ∧ wr.ownsRow (w.heap.size + 2) 3 1 (.slice A1 l.length c1) l.length (cI (renN l (silF n l m) h k)) ∧ wr.ownsRow w2.heap.size 3 1 (.slice A3 (silF n l m).length c3) (silF n l m).length (cI (silF n l m)) ∧ wr.cell? ⟨w.heap.size + 1, 0, none⟩ = some (.slice none 0 0) ∧ wr.cell? ⟨w.heap.size + 1, 1, none⟩ = some (.int .i64 0) ∧ wr.cell? ⟨w1.heap.size, 0, none⟩ = some (.slice A1 l.length c1) ∧ wr.cell? ⟨w1.heap.size, 1, none⟩ = some (.int .i64 n) ∧ wr.frozen? ⟨w.heap.size + 1, 0, none⟩ = false ∧ wr.frozen? ⟨w.heap.size + 1, 1, none⟩ = false) (fun i _ => (silF n l m).length - (intOf i).toNat)
    case atStart => exact ⟨0, Nat.zero_le _, rfl, bel3, ow, ow3, q1, q2, x2, x3, x4, x5⟩
    case round =>
      clear q1 q2 x2 x3 x4 x5 ow ow3 bel3
      obtain ⟨k, hk, rfl, bel, ow, ow3, q1, q2, x2, x3, x4, x5⟩ := hrel
      have RL := Lib.hid (renN_len l (silF n l m) h k)
      by_cases hlt : k < (silF n l m).length
      · have hlt' : (k : Int) < ((silF n l m).length : Int) := by omega
        obtain ⟨g, rfl, ga, gb⟩ := hA (by omega)
        obtain ⟨g3, rfl, g3a, g3b⟩ := own_head ow3 (by omega)
        obtain ⟨m0, m1⟩ := hmem k hlt
        obtain ⟨J, hJ⟩ := Int.eq_ofNat_of_zero_le m0
        have e1 : wr.cell? ⟨g3, k, none⟩ = some (.int .i64 (gi (silF n l m) k)) := (ow3.cellAt k (by omega)).trans (cI_get hlt)
        rw [hJ] at e1 m1
        have st := ow.stored J (.int .i64 h)
        have ow' := st.1
        rw [cI_set] at ow'
        have hr : renN l (silF n l m) h (k + 1) = (renN l (silF n l m) h k).set J h := by rw [renN, hJ]; rfl
        have HR := Lib.hid hr
        clear hr
        have e2 : wr.cell? ⟨g, J, none⟩ = some (.int .i64 (gi (renN l (silF n l m) h k) J)) := (ow.cellAt _ (by omega)).trans (cI_get (by rw [RL.out]; omega))
        have e3 := ow.frozenAt J
        have ow3' := own_other ow3 (a := ⟨g, J, none⟩) (by simp; omega) (.int .i64 h)
        have bel' : Below w.heap.size w (wr.setCell ⟨g, J, none⟩ (.int .i64 h)) := bl_set bel (by simp; omega) _
        clear st
        go_wp2
        go_roundw
        case rel => exact ⟨k + 1, by omega, by go_num, bel', by rw [HR.out]; exact ow', ow3', cell_off q1 (by omega), cell_off q2 (by omega), cell_off x2 (by omega), cell_off x3 (by omega), froz_off x4 (by omega), froz_off x5 (by omega)⟩
        case measure => simp [intOf]; omega
      · obtain rfl : k = (silF n l m).length := by omega
        go_wp2
        exact bodyPost_ret (v := .tuple #[.agg #[.slice A1 (renN l (silF n l m) h (silF n l m).length).length c1, .int .i64 n], .int .i64 (silF n l m).length]) (by simp [results, Try.results37, go_sem, q1, q2, RL.out]) rfl ⟨_, _, rfl, by rw [RL.out]; (apply own_lo; repeat' (first | (with_reducible assumption) | (with_reducible apply ownsRow_setCell_below) | (with_reducible apply World.ownsRow.alloc) | (with_reducible apply own_drewN) | (with_reducible apply World.ownsRow.drew) | (with_reducible apply own_bl2) | (simp; done) | (simp; omega) | omega)), by (repeat' (first | (with_reducible exact Below.refl _ _) | (with_reducible refine bl_alloc ?_ _) | (with_reducible refine bl_drewN ?_ _) | (with_reducible refine bl_drew ?_) | (with_reducible assumption) | (with_reducible refine bl_to ?_ (by assumption)) | (with_reducible refine Below.trans ?_ (by assumption)) | (with_reducible refine Below.trans ?_ (Below.mono (by assumption) ?_)) | (with_reducible refine bl_set ?_ ?_ _) | (simp; done) | (simp; omega) | omega))⟩
set_option maxHeartbeats 1600000 in
theorem renS_any (n : Int) (v : Value) (l : List Int) (m h : Int) (w : World) (h1 : RdI w v l) (hl : l.length ≤ 1048576) :
    Calls Try.prog 36 #[.agg #[v, .int .i64 n], .int .i64 m, .int .i64 h] w (NewWear2 n (renF n l m h) (renQ n l m h) w) := by
  cases ho : renB n l m h
  · have hF : renF n l m h = l := by simp [renF, ho]
    have hQ : renQ n l m h = -1 := by simp [renQ, ho]
    rw [hF, hQ]
    clear hF hQ
    cases hw : wearB n l
    rotate_left
    cases hm : inB m 0 1000
    rotate_left
    have hh : inB h 0 1000 = false := by simpa [renB, hw, hm] using ho
    all_goals
      go_enter Try.func36, Try.ntmps36
      go_wp2_with (first | ((go_at_call 75; refine (l25Copy_any _ _ l _ (h1.bl (by (repeat' (first | (with_reducible exact Below.refl _ _) | (with_reducible refine bl_alloc ?_ _) | (with_reducible refine bl_drewN ?_ _) | (with_reducible refine bl_drew ?_) | (with_reducible assumption) | (with_reducible refine bl_to ?_ (by assumption)) | (with_reducible refine Below.trans ?_ (by assumption)) | (with_reducible refine Below.trans ?_ (Below.mono (by assumption) ?_)) | (with_reducible refine bl_set ?_ ?_ _) | (simp; done) | (simp; omega) | omega)))) hl).mono ?_; rintro e w1 ⟨A1, c1, rfl, ow1, b1⟩; obtain ⟨k1, f1, z1⟩ := bcell b1); have y1 : w.heap.size < w1.heap.size := z1 _ (by (first | omega | (simp; done) | (simp; omega))); have y1' : w.heap.size + 1 < w1.heap.size := z1 _ (by (first | omega | (simp; done) | (simp; omega)))) | ((go_at_call 73; refine (wearS_ok _ _ l _ (h1.bl (by (repeat' (first | (with_reducible exact Below.refl _ _) | (with_reducible refine bl_alloc ?_ _) | (with_reducible refine bl_drewN ?_ _) | (with_reducible refine bl_drew ?_) | (with_reducible assumption) | (with_reducible refine bl_to ?_ (by assumption)) | (with_reducible refine Below.trans ?_ (by assumption)) | (with_reducible refine Below.trans ?_ (Below.mono (by assumption) ?_)) | (with_reducible refine bl_set ?_ ?_ _) | (simp; done) | (simp; omega) | omega)))) hl).mono ?_; rintro e w2 ⟨rfl, b2⟩; obtain ⟨k2, f2, z2⟩ := bcell b2); have q1 : w2.cell? ⟨w.heap.size + 1, 0, none⟩ = some (.slice none 0 0) := (k2 _ _ (by (first | omega | (simp; done) | (simp; omega)))).trans (by simp [go_sem, k1, y1']); have q2 : w2.cell? ⟨w.heap.size + 1, 1, none⟩ = some (.int .i64 0) := (k2 _ _ (by (first | omega | (simp; done) | (simp; omega)))).trans (by simp [go_sem, k1, y1'])) | (go_at_call 67; refine (l01In_any _ _ _ _).mono ?_; rintro e w' ⟨rfl, rfl⟩))
      exact bodyPost_ret (v := .tuple #[.agg #[.slice A1 l.length c1, .int .i64 n], .int .i64 (-1)]) (by simp [results, Try.results36, go_sem, q1, q2]) rfl ⟨_, _, rfl, by (apply own_lo; repeat' (first | (with_reducible assumption) | (with_reducible apply ownsRow_setCell_below) | (with_reducible apply World.ownsRow.alloc) | (with_reducible apply own_drewN) | (with_reducible apply World.ownsRow.drew) | (with_reducible apply own_bl2) | (simp; done) | (simp; omega) | omega)), by (repeat' (first | (with_reducible exact Below.refl _ _) | (with_reducible refine bl_alloc ?_ _) | (with_reducible refine bl_drewN ?_ _) | (with_reducible refine bl_drew ?_) | (with_reducible assumption) | (with_reducible refine bl_to ?_ (by assumption)) | (with_reducible refine Below.trans ?_ (by assumption)) | (with_reducible refine Below.trans ?_ (Below.mono (by assumption) ?_)) | (with_reducible refine bl_set ?_ ?_ _) | (simp; done) | (simp; omega) | omega))⟩
  · have hF : renF n l m h = renN l (silF n l m) h (silF n l m).length := by simp [renF, ho]
    have hQ : renQ n l m h = (silF n l m).length := by simp [renQ, ho]
    rw [hF, hQ]
    clear hF hQ
    obtain ⟨⟨hw, hm⟩, hh⟩ : (wearB n l = true ∧ inB m 0 1000 = true) ∧ inB h 0 1000 = true := by simpa [renB] using ho
    have hql := silF_len n l m
    have hmem : ∀ k, k < (silF n l m).length → 0 ≤ gi (silF n l m) k ∧ gi (silF n l m) k < l.length := fun k hk => silF_mem (gi_mem hk)
    obtain ⟨A0, c0, rfl, hc0, hm0⟩ := h1.form
    go_enter Try.func36, Try.ntmps36
    go_wp2_with (first | ((go_at_call 75; refine (l25Copy_any _ _ l _ (h1.bl (by (repeat' (first | (with_reducible exact Below.refl _ _) | (with_reducible refine bl_alloc ?_ _) | (with_reducible refine bl_drewN ?_ _) | (with_reducible refine bl_drew ?_) | (with_reducible assumption) | (with_reducible refine bl_to ?_ (by assumption)) | (with_reducible refine Below.trans ?_ (by assumption)) | (with_reducible refine Below.trans ?_ (Below.mono (by assumption) ?_)) | (with_reducible refine bl_set ?_ ?_ _) | (simp; done) | (simp; omega) | omega)))) hl).mono ?_; rintro e w1 ⟨A1, c1, rfl, ow1, b1⟩; obtain ⟨k1, f1, z1⟩ := bcell b1); have y1 : w.heap.size < w1.heap.size := z1 _ (by (first | omega | (simp; done) | (simp; omega))); have y1' : w.heap.size + 1 < w1.heap.size := z1 _ (by (first | omega | (simp; done) | (simp; omega)))) | ((go_at_call 73; refine (wearS_ok _ _ l _ (h1.bl (by (repeat' (first | (with_reducible exact Below.refl _ _) | (with_reducible refine bl_alloc ?_ _) | (with_reducible refine bl_drewN ?_ _) | (with_reducible refine bl_drew ?_) | (with_reducible assumption) | (with_reducible refine bl_to ?_ (by assumption)) | (with_reducible refine Below.trans ?_ (by assumption)) | (with_reducible refine Below.trans ?_ (Below.mono (by assumption) ?_)) | (with_reducible refine bl_set ?_ ?_ _) | (simp; done) | (simp; omega) | omega)))) hl).mono ?_; rintro e w2 ⟨rfl, b2⟩; obtain ⟨k2, f2, z2⟩ := bcell b2); have y2 : w1.heap.size < w2.heap.size := z2 _ (by (first | omega | (simp; done) | (simp; omega)))) | (go_at_call 67; refine (l01In_any _ _ _ _).mono ?_; rintro e w' ⟨rfl, rfl⟩) | (go_at_call 74; refine (silS_any _ _ l _ _ (h1.bl (by (repeat' (first | (with_reducible exact Below.refl _ _) | (with_reducible refine bl_alloc ?_ _) | (with_reducible refine bl_drewN ?_ _) | (with_reducible refine bl_drew ?_) | (with_reducible assumption) | (with_reducible refine bl_to ?_ (by assumption)) | (with_reducible refine Below.trans ?_ (by assumption)) | (with_reducible refine Below.trans ?_ (Below.mono (by assumption) ?_)) | (with_reducible refine bl_set ?_ ?_ _) | (simp; done) | (simp; omega) | omega)))) hl).mono ?_; rintro e w3 ⟨A3, c3, rfl, ow3, b3⟩; obtain ⟨k3, f3, z3⟩ := bcell b3))
    have hA : 0 < (silF n l m).length → ∃ g, A1 = some ⟨g, 0, none⟩ ∧ w.heap.size + 2 ≤ g ∧ g < w1.heap.size := fun hp => by
      obtain ⟨g, e, g1, g2⟩ := own_head ow1 (by omega)
      simp only [World.size_alloc] at g1
      exact ⟨g, e, g1, g2⟩
    have x2 : w3.cell? ⟨w1.heap.size, 0, none⟩ = some (.slice A1 l.length c1) := (k3 _ _ (by (first | omega | (simp; done) | (simp; omega)))).trans ((k2 _ _ (by (first | omega | (simp; done) | (simp; omega)))).trans (by simp [go_sem]))
    have x3 : w3.cell? ⟨w1.heap.size, 1, none⟩ = some (.int .i64 n) := (k3 _ _ (by (first | omega | (simp; done) | (simp; omega)))).trans ((k2 _ _ (by (first | omega | (simp; done) | (simp; omega)))).trans (by simp [go_sem]))
    have q1 : w3.cell? ⟨w.heap.size + 1, 0, none⟩ = some (.slice none 0 0) := (k3 _ _ (by (first | omega | (simp; done) | (simp; omega)))).trans ((k2 _ _ (by (first | omega | (simp; done) | (simp; omega)))).trans (by simp [go_sem, k1, y1']))
    have q2 : w3.cell? ⟨w.heap.size + 1, 1, none⟩ = some (.int .i64 0) := (k3 _ _ (by (first | omega | (simp; done) | (simp; omega)))).trans ((k2 _ _ (by (first | omega | (simp; done) | (simp; omega)))).trans (by simp [go_sem, k1, y1']))
    have x4 : w3.frozen? ⟨w.heap.size + 1, 0, none⟩ = false := (f3 _ _ (by (first | omega | (simp; done) | (simp; omega)))).trans ((f2 _ _ (by (first | omega | (simp; done) | (simp; omega)))).trans (by simp [go_sem, f1, y1']))
    have x5 : w3.frozen? ⟨w.heap.size + 1, 1, none⟩ = false := (f3 _ _ (by (first | omega | (simp; done) | (simp; omega)))).trans ((f2 _ _ (by (first | omega | (simp; done) | (simp; omega)))).trans (by simp [go_sem, f1, y1']))
    have ow : w3.ownsRow (w.heap.size + 2) 3 1 (.slice A1 l.length c1) l.length (cI l) := by (apply own_lo; repeat' (first | (with_reducible assumption) | (with_reducible apply ownsRow_setCell_below) | (with_reducible apply World.ownsRow.alloc) | (with_reducible apply own_drewN) | (with_reducible apply World.ownsRow.drew) | (with_reducible apply own_bl2) | (simp; done) | (simp; omega) | omega))
    have bel3 : Below w.heap.size w w3 := by (repeat' (first | (with_reducible exact Below.refl _ _) | (with_reducible refine bl_alloc ?_ _) | (with_reducible refine bl_drewN ?_ _) | (with_reducible refine bl_drew ?_) | (with_reducible assumption) | (with_reducible refine bl_to ?_ (by assumption)) | (with_reducible refine Below.trans ?_ (by assumption)) | (with_reducible refine Below.trans ?_ (Below.mono (by assumption) ?_)) | (with_reducible refine bl_set ?_ ?_ _) | (simp; done) | (simp; omega) | omega))
    clear k3 f3 z3 k2 f2 z2 k1 f1 z1 ow1 b1 b2 b3 h1
    go_loopw [10] (fun i wr => ∃ k : Nat, k ≤ (silF n l m).length ∧ i = .int .i64 k ∧ Below w.heap.size w wr ∧ wr.ownsRow (w.heap.size + 2) 3 1 (.slice A1 l.length c1) l.length (cI (renN l (silF n l m) h k)) ∧ wr.ownsRow w2.heap.size 3 1 (.slice A3 (silF n l m).length c3) (silF n l m).length (cI (silF n l m)) ∧ wr.cell? ⟨w.heap.size + 1, 0, none⟩ = some (.slice none 0 0) ∧ wr.cell? ⟨w.heap.size + 1, 1, none⟩ = some (.int .i64 0) ∧ wr.cell? ⟨w1.heap.size, 0, none⟩ = some (.slice A1 l.length c1) ∧ wr.cell? ⟨w1.heap.size, 1, none⟩ = some (.int .i64 n) ∧ wr.frozen? ⟨w.heap.size + 1, 0, none⟩ = false ∧ wr.frozen? ⟨w.heap.size + 1, 1, none⟩ = false) (fun i _ => (silF n l m).length - (intOf i).toNat)
    case atStart => exact ⟨0, Nat.zero_le _, rfl, bel3, ow, ow3, q1, q2, x2, x3, x4, x5⟩
    case round =>
      clear q1 q2 x2 x3 x4 x5 ow ow3 bel3
      obtain ⟨k, hk, rfl, bel, ow, ow3, q1, q2, x2, x3, x4, x5⟩ := hrel
      have RL := Lib.hid (renN_len l (silF n l m) h k)
      by_cases hlt : k < (silF n l m).length
      · have hlt' : (k : Int) < ((silF n l m).length : Int) := by omega
        obtain ⟨g, rfl, ga, gb⟩ := hA (by omega)
        obtain ⟨g3, rfl, g3a, g3b⟩ := own_head ow3 (by omega)
        obtain ⟨m0, m1⟩ := hmem k hlt
        obtain ⟨J, hJ⟩ := Int.eq_ofNat_of_zero_le m0
        have e1 : wr.cell? ⟨g3, k, none⟩ = some (.int .i64 (gi (silF n l m) k)) := (ow3.cellAt k (by omega)).trans (cI_get hlt)
        rw [hJ] at e1 m1
        have st := ow.stored J (.int .i64 h)
        have ow' := st.1
        rw [cI_set] at ow'
        have hr : renN l (silF n l m) h (k + 1) = (renN l (silF n l m) h k).set J h := by rw [renN, hJ]; rfl
        have HR := Lib.hid hr
        clear hr
        have e2 : wr.cell? ⟨g, J, none⟩ = some (.int .i64 (gi (renN l (silF n l m) h k) J)) := (ow.cellAt _ (by omega)).trans (cI_get (by rw [RL.out]; omega))
        have e3 := ow.frozenAt J
        have ow3' := own_other ow3 (a := ⟨g, J, none⟩) (by simp; omega) (.int .i64 h)
        have bel' : Below w.heap.size w (wr.drew.setCell ⟨g, J, none⟩ (.int .i64 h)) := bl_set (bl_drew bel) (by simp; omega) _
        clear st
        go_wp2
        go_region
        go_wp2
        go_roundw
        case rel => exact ⟨k + 1, by omega, by go_num, bel', by rw [HR.out]; exact ow', ow3', cell_far q1 (by omega), cell_far q2 (by omega), cell_far x2 (by omega), cell_far x3 (by omega), froz_far x4 (by omega), froz_far x5 (by omega)⟩
        case measure => simp [intOf]; omega
      · obtain rfl : k = (silF n l m).length := by omega
        go_wp2
        exact bodyPost_ret (v := .tuple #[.agg #[.slice A1 (renN l (silF n l m) h (silF n l m).length).length c1, .int .i64 n], .int .i64 (silF n l m).length]) (by simp [results, Try.results36, go_sem, q1, q2, RL.out]) rfl ⟨_, _, rfl, by rw [RL.out]; (apply own_lo; repeat' (first | (with_reducible assumption) | (with_reducible apply ownsRow_setCell_below) | (with_reducible apply World.ownsRow.alloc) | (with_reducible apply own_drewN) | (with_reducible apply World.ownsRow.drew) | (with_reducible apply own_bl2) | (simp; done) | (simp; omega) | omega)), by (repeat' (first | (with_reducible exact Below.refl _ _) | (with_reducible refine bl_alloc ?_ _) | (with_reducible refine bl_drewN ?_ _) | (with_reducible refine bl_drew ?_) | (with_reducible assumption) | (with_reducible refine bl_to ?_ (by assumption)) | (with_reducible refine Below.trans ?_ (by assumption)) | (with_reducible refine Below.trans ?_ (Below.mono (by assumption) ?_)) | (with_reducible refine bl_set ?_ ?_ _) | (simp; done) | (simp; omega) | omega))⟩
end Go.Proofs.Ytoijjjaodfincaa
