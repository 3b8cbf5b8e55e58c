/- FlipDisc of the program and of the reference; lengths up to 2^20. -/
import Derived.Test.YtoijjjaodfincaaTurn
namespace Go.Proofs.Ytoijjjaodfincaa
open Go.RowKit

theorem setsL_at {l : List Int} {idx : Nat → Nat} {val : Nat → Int} {k J : Nat} (h : idx k = J) : setsL l idx val (k + 1) = (setsL l idx val k).set J (val k) := by rw [← h]; rfl
def flipL (l : List Int) : List Int := setsL l (fun k => (l.length - k) % l.length) (gi l) l.length
def flipF (r : Int) (l : List Int) : List Int := if discB r l then flipL l else l
theorem flipF_len (r : Int) (l : List Int) : (flipF r l).length = l.length := by
  unfold flipF flipL
  split
  · exact setsL_len _ _ _ _
  · rfl

set_option maxHeartbeats 800000 in
theorem flipI_any (r : Int) (v : Value) (l : List Int) (w : World) (h1 : RdI w v l) (hl : l.length ≤ 1048576) :
    Calls Try.prog 26 #[.agg #[.int .i64 r, v]] w (NewDisc r (flipF r l) w) := by
  cases ho : discB r l
  · have hF : flipF r l = l := by simp [flipF, ho]
    rw [hF]
    clear hF
    go_enter Try.func26, Try.ntmps26
    go_wp2_with (first | ((go_at_call 70; refine (copyDisc_any _ _ l _ (h1.bl (by (repeat' (first | (with_reducible exact Below.refl _ _) | (with_reducible refine bl_alloc ?_ _) | (with_reducible refine bl_drewN ?_ _) | (with_reducible refine bl_drew ?_) | (with_reducible assumption) | (with_reducible refine bl_to ?_ (by assumption)) | (with_reducible refine Below.trans ?_ (by assumption)) | (with_reducible refine Below.trans ?_ (Below.mono (by assumption) ?_)) | (with_reducible refine bl_set ?_ ?_ _) | (simp; done) | (simp; omega) | omega)))) hl).mono ?_; rintro e w1 ⟨A1, c1, rfl, ow1, b1⟩; obtain ⟨k1, f1, z1⟩ := bcell b1); have y1 : w.heap.size < w1.heap.size := z1 _ (by (first | omega | (simp; done) | (simp; omega))); have y1' : w.heap.size + 1 < w1.heap.size := z1 _ (by (first | omega | (simp; done) | (simp; omega)))) | ((go_at_call 19; refine (discI_ok _ _ l _ (h1.bl (by (repeat' (first | (with_reducible exact Below.refl _ _) | (with_reducible refine bl_alloc ?_ _) | (with_reducible refine bl_drewN ?_ _) | (with_reducible refine bl_drew ?_) | (with_reducible assumption) | (with_reducible refine bl_to ?_ (by assumption)) | (with_reducible refine Below.trans ?_ (by assumption)) | (with_reducible refine Below.trans ?_ (Below.mono (by assumption) ?_)) | (with_reducible refine bl_set ?_ ?_ _) | (simp; done) | (simp; omega) | omega)))) hl).mono ?_; rintro e w2 ⟨rfl, b2⟩; obtain ⟨k2, f2, z2⟩ := bcell b2); have q1 : w2.cell? ⟨w.heap.size + 1, 0, none⟩ = some (.int .i64 0) := (k2 _ _ (by (first | omega | (simp; done) | (simp; omega)))).trans (by simp [go_sem, k1, y1']); have q2 : w2.cell? ⟨w.heap.size + 1, 1, none⟩ = some (.slice none 0 0) := (k2 _ _ (by (first | omega | (simp; done) | (simp; omega)))).trans (by simp [go_sem, k1, y1'])))
    exact bodyPost_ret (v := .agg #[.int .i64 r, .slice A1 l.length c1]) (by simp [results, Try.results26, go_sem, q1, q2]) rfl ⟨_, _, rfl, by (apply own_lo; repeat' (first | (with_reducible assumption) | (with_reducible apply ownsRow_setCell_below) | (with_reducible apply World.ownsRow.alloc) | (with_reducible apply own_drewN) | (with_reducible apply World.ownsRow.drew) | (with_reducible apply own_bl2) | (simp; done) | (simp; omega) | omega)), by (repeat' (first | (with_reducible exact Below.refl _ _) | (with_reducible refine bl_alloc ?_ _) | (with_reducible refine bl_drewN ?_ _) | (with_reducible refine bl_drew ?_) | (with_reducible assumption) | (with_reducible refine bl_to ?_ (by assumption)) | (with_reducible refine Below.trans ?_ (by assumption)) | (with_reducible refine Below.trans ?_ (Below.mono (by assumption) ?_)) | (with_reducible refine bl_set ?_ ?_ _) | (simp; done) | (simp; omega) | omega))⟩
  · obtain ⟨⟨r1, r2⟩, ⟨n1, n2⟩, _⟩ := discB_iff ho
    have hF : flipF r l = flipL l := by simp [flipF, ho]
    rw [hF]
    clear hF
    obtain ⟨A0, c0, rfl, hc0, hm0⟩ := h1.form
    go_enter Try.func26, Try.ntmps26
    go_wp2_with (first | ((go_at_call 70; refine (copyDisc_any _ _ l _ (h1.bl (by (repeat' (first | (with_reducible exact Below.refl _ _) | (with_reducible refine bl_alloc ?_ _) | (with_reducible refine bl_drewN ?_ _) | (with_reducible refine bl_drew ?_) | (with_reducible assumption) | (with_reducible refine bl_to ?_ (by assumption)) | (with_reducible refine Below.trans ?_ (by assumption)) | (with_reducible refine Below.trans ?_ (Below.mono (by assumption) ?_)) | (with_reducible refine bl_set ?_ ?_ _) | (simp; done) | (simp; omega) | omega)))) hl).mono ?_; rintro e w1 ⟨A1, c1, rfl, ow1, b1⟩; obtain ⟨k1, f1, z1⟩ := bcell b1); have y1 : w.heap.size < w1.heap.size := z1 _ (by (first | omega | (simp; done) | (simp; omega))); have y1' : w.heap.size + 1 < w1.heap.size := z1 _ (by (first | omega | (simp; done) | (simp; omega)))) | ((go_at_call 19; refine (discI_ok _ _ l _ (h1.bl (by (repeat' (first | (with_reducible exact Below.refl _ _) | (with_reducible refine bl_alloc ?_ _) | (with_reducible refine bl_drewN ?_ _) | (with_reducible refine bl_drew ?_) | (with_reducible assumption) | (with_reducible refine bl_to ?_ (by assumption)) | (with_reducible refine Below.trans ?_ (by assumption)) | (with_reducible refine Below.trans ?_ (Below.mono (by assumption) ?_)) | (with_reducible refine bl_set ?_ ?_ _) | (simp; done) | (simp; omega) | omega)))) hl).mono ?_; rintro e w2 ⟨rfl, b2⟩; obtain ⟨k2, f2, z2⟩ := bcell b2); have q1 : w2.cell? ⟨w.heap.size + 1, 0, none⟩ = some (.int .i64 0) := (k2 _ _ (by (first | omega | (simp; done) | (simp; omega)))).trans (by simp [go_sem, k1, y1']); have q2 : w2.cell? ⟨w.heap.size + 1, 1, none⟩ = some (.slice none 0 0) := (k2 _ _ (by (first | omega | (simp; done) | (simp; omega)))).trans (by simp [go_sem, k1, y1'])))
    obtain ⟨g, rfl, g1, g2⟩ := own_head ow1 (by omega)
    simp only [World.size_alloc] at g1
    have x1 : w2.cell? ⟨w.heap.size, 1, none⟩ = some (.slice A0 l.length c0) := (k2 _ _ (by (first | omega | (simp; done) | (simp; omega)))).trans (by simp [go_sem, k1, y1])
    have x2 : w2.cell? ⟨w1.heap.size, 1, none⟩ = some (.slice (some ⟨g, 0, none⟩) l.length c1) := (k2 _ _ (by (first | omega | (simp; done) | (simp; omega)))).trans (by simp [go_sem])
    have x3 : w2.cell? ⟨w1.heap.size, 0, none⟩ = some (.int .i64 r) := (k2 _ _ (by (first | omega | (simp; done) | (simp; omega)))).trans (by simp [go_sem])
    have x4 : w2.frozen? ⟨w.heap.size + 1, 0, none⟩ = false := (f2 _ _ (by (first | omega | (simp; done) | (simp; omega)))).trans (by simp [go_sem, f1, y1'])
    have x5 : w2.frozen? ⟨w.heap.size + 1, 1, none⟩ = false := (f2 _ _ (by (first | omega | (simp; done) | (simp; omega)))).trans (by simp [go_sem, f1, y1'])
    have ow2 : w2.ownsRow (w.heap.size + 2) 3 1 (.slice (some ⟨g, 0, none⟩) l.length c1) l.length (cI l) := by (apply own_lo; repeat' (first | (with_reducible assumption) | (with_reducible apply ownsRow_setCell_below) | (with_reducible apply World.ownsRow.alloc) | (with_reducible apply own_drewN) | (with_reducible apply World.ownsRow.drew) | (with_reducible apply own_bl2) | (simp; done) | (simp; omega) | omega))
    have bel2 : Below w.heap.size w w2 := by (repeat' (first | (with_reducible exact Below.refl _ _) | (with_reducible refine bl_alloc ?_ _) | (with_reducible refine bl_drewN ?_ _) | (with_reducible refine bl_drew ?_) | (with_reducible assumption) | (with_reducible refine bl_to ?_ (by assumption)) | (with_reducible refine Below.trans ?_ (by assumption)) | (with_reducible refine Below.trans ?_ (Below.mono (by assumption) ?_)) | (with_reducible refine bl_set ?_ ?_ _) | (simp; done) | (simp; omega) | omega))
    clear k2 f2 z2 k1 f1 z1 ow1 b1 b2
    go_loopw [19] (fun i wr => ∃ k : Nat, k ≤ l.length ∧ i = .int .i64 k ∧ Below w.heap.size w wr ∧ wr.ownsRow (w.heap.size + 2) 3 1 (.slice (some ⟨g, 0, none⟩) l.length c1) l.length (cI (setsL l (fun k => (l.length - k) % l.length) (gi l) k)) ∧ wr.cell? ⟨w.heap.size + 1, 0, none⟩ = some (.int .i64 0) ∧ wr.cell? ⟨w.heap.size + 1, 1, none⟩ = some (.slice none 0 0) ∧ wr.cell? ⟨w.heap.size, 1, none⟩ = some (.slice A0 l.length c0) ∧ wr.cell? ⟨w1.heap.size, 1, none⟩ = some (.slice (some ⟨g, 0, none⟩) l.length c1) ∧ wr.cell? ⟨w1.heap.size, 0, none⟩ = some (.int .i64 r) ∧ wr.frozen? ⟨w.heap.size + 1, 0, none⟩ = false ∧ wr.frozen? ⟨w.heap.size + 1, 1, none⟩ = false) (fun i _ => l.length - (intOf i).toNat)
    case atStart => exact ⟨0, Nat.zero_le _, rfl, bel2, ow2, q1, q2, x1, x2, x3, x4, x5⟩
    case round =>
      clear q1 q2 x1 x2 x3 x4 x5 ow2 bel2
      obtain ⟨k, hk, rfl, bel, ow, q1, q2, x1, x2, x3, x4, x5⟩ := hrel
      have sl := setsL_len l (fun k => (l.length - k) % l.length) (gi l) k
      have SL := Lib.hid sl
      clear sl
      by_cases hlt : k < l.length
      · have hlt' : (k : Int) < (l.length : Int) := by omega
        obtain ⟨J, hJ⟩ : ∃ J : Nat, (l.length - k) % l.length = J := ⟨_, rfl⟩
        have hm : J < l.length := by rw [← hJ]; exact Nat.mod_lt _ (by omega)
        have i3 : ((l.length : Int) - (k : Int)) % (l.length : Int) = (J : Int) := by rw [show (l.length : Int) - (k : Int) = ((l.length - k : Nat) : Int) from by omega, ← Int.natCast_emod, hJ]
        have HJ := Lib.hid hJ
        clear hJ
        have st := ow.stored J (.int .i64 (gi l k))
        have ow' := st.1
        rw [cI_set] at ow'
        obtain ⟨g0, o0, rfl, hg0, rd⟩ := h1.look (by omega)
        have e1 := (bel.cell (p := ⟨g0, o0 + k, none⟩) hg0).trans (rd k _ (cI_get hlt))
        have e2 : wr.cell? ⟨g, J, none⟩ = some (.int .i64 (gi (setsL l (fun k => (l.length - k) % l.length) (gi l) k) J)) := (ow.cellAt _ (by omega)).trans (cI_get (by rw [SL.out]; exact hm))
        have e3 := ow.frozenAt J
        have bel' : Below w.heap.size w (wr.drew.setCell ⟨g, J, none⟩ (.int .i64 (gi l k))) := bl_set (bl_drew bel) (by simp; omega) _
        clear rd st h1
        go_wp2
        go_region
        go_wp2
        go_roundw
        case rel => exact ⟨k + 1, by omega, by go_num, bel', by rw [setsL_at (idx := fun k => (l.length - k) % l.length) HJ.out]; exact ow', cell_far q1 (by omega), cell_far q2 (by omega), cell_far x1 (by omega), cell_far x2 (by omega), cell_far x3 (by omega), froz_far x4 (by omega), froz_far x5 (by omega)⟩
        case measure => simp [intOf]; omega
      · obtain rfl : k = l.length := by omega
        go_wp2
        exact bodyPost_ret (v := .agg #[.int .i64 r, .slice (some ⟨g, 0, none⟩) (flipL l).length c1]) (by simp [results, Try.results26, go_sem, q1, q2, flipL, SL.out]) rfl ⟨_, _, rfl, by rw [flipL, SL.out]; (apply own_lo; repeat' (first | (with_reducible assumption) | (with_reducible apply ownsRow_setCell_below) | (with_reducible apply World.ownsRow.alloc) | (with_reducible apply own_drewN) | (with_reducible apply World.ownsRow.drew) | (with_reducible apply own_bl2) | (simp; done) | (simp; omega) | omega)), by (repeat' (first | (with_reducible exact Below.refl _ _) | (with_reducible refine bl_alloc ?_ _) | (with_reducible refine bl_drewN ?_ _) | (with_reducible refine bl_drew ?_) | (with_reducible assumption) | (with_reducible refine bl_to ?_ (by assumption)) | (with_reducible refine Below.trans ?_ (by assumption)) | (with_reducible refine Below.trans ?_ (Below.mono (by assumption) ?_)) | (with_reducible refine bl_set ?_ ?_ _) | (simp; done) | (simp; omega) | omega))⟩

set_option maxHeartbeats 800000 in
theorem flipS_any (r : Int) (v : Value) (l : List Int) (w : World) (h1 : RdI w v l) (hl : l.length ≤ 1048576) :
    Calls Try.prog 25 #[.agg #[.int .i64 r, v]] w (NewDisc r (flipF r l) w) := by
  obtain ⟨A0, c0, rfl, hc0, hm0⟩ := h1.form
  unfold maxLen at hm0
  by_cases h0 : l.length = 0
  · have hF : flipF r l = l := by
      have hn : inB l.length 4 96 = false := inB_no (by omega)
      simp [flipF, discB, hn]
    rw [hF]
    have hz : ¬ (0 : Int) < (l.length : Int) := by omega
    clear hF h0
    go_enter Try.func25, Try.ntmps25
    go_wp2_with ((go_at_call 69; refine (l26Copy_any _ _ l _ (h1.bl (by (repeat' (first | (with_reducible exact Below.refl _ _) | (with_reducible refine bl_alloc ?_ _) | (with_reducible refine bl_drewN ?_ _) | (with_reducible refine bl_drew ?_) | (with_reducible assumption) | (with_reducible refine bl_to ?_ (by assumption)) | (with_reducible refine Below.trans ?_ (by assumption)) | (with_reducible refine Below.trans ?_ (Below.mono (by assumption) ?_)) | (with_reducible refine bl_set ?_ ?_ _) | (simp; done) | (simp; omega) | omega)))) hl).mono ?_; rintro e w1 ⟨A1, c1, rfl, ow1, b1⟩; obtain ⟨k1, f1, z1⟩ := bcell b1); have y1 : w.heap.size < w1.heap.size := z1 _ (by (first | omega | (simp; done) | (simp; omega))); have y1' : w.heap.size + 1 < w1.heap.size := z1 _ (by (first | omega | (simp; done) | (simp; omega))); have u1 : w1.cell? ⟨w.heap.size + 1, 0, none⟩ = some (.int .i64 0) := (k1 _ _ (by (first | omega | (simp; done) | (simp; omega)))).trans (by simp [go_sem]); have u2 : w1.cell? ⟨w.heap.size + 1, 1, none⟩ = some (.slice none 0 0) := (k1 _ _ (by (first | omega | (simp; done) | (simp; omega)))).trans (by simp [go_sem]))
    refine wp_loop_rounds 1 ?_
    rw [rounds_succ]
    go_wp2
    exact bodyPost_ret (v := .agg #[.int .i64 r, .slice A1 l.length c1]) (by simp [results, Try.results25, go_sem, u1, u2, y1']) rfl ⟨_, _, rfl, by (apply own_lo; repeat' (first | (with_reducible assumption) | (with_reducible apply ownsRow_setCell_below) | (with_reducible apply World.ownsRow.alloc) | (with_reducible apply own_drewN) | (with_reducible apply World.ownsRow.drew) | (with_reducible apply own_bl2) | (simp; done) | (simp; omega) | omega)), by (repeat' (first | (with_reducible exact Below.refl _ _) | (with_reducible refine bl_alloc ?_ _) | (with_reducible refine bl_drewN ?_ _) | (with_reducible refine bl_drew ?_) | (with_reducible assumption) | (with_reducible refine bl_to ?_ (by assumption)) | (with_reducible refine Below.trans ?_ (by assumption)) | (with_reducible refine Below.trans ?_ (Below.mono (by assumption) ?_)) | (with_reducible refine bl_set ?_ ?_ _) | (simp; done) | (simp; omega) | omega))⟩
  have hlt0 : (0 : Int) < (l.length : Int) := by omega
  cases ho : discB r l
  · have hF : flipF r l = l := by simp [flipF, ho]
    rw [hF]
    clear hF
    go_enter Try.func25, Try.ntmps25
    go_wp2_with ((go_at_call 69; refine (l26Copy_any _ _ l _ (h1.bl (by (repeat' (first | (with_reducible exact Below.refl _ _) | (with_reducible refine bl_alloc ?_ _) | (with_reducible refine bl_drewN ?_ _) | (with_reducible refine bl_drew ?_) | (with_reducible assumption) | (with_reducible refine bl_to ?_ (by assumption)) | (with_reducible refine Below.trans ?_ (by assumption)) | (with_reducible refine Below.trans ?_ (Below.mono (by assumption) ?_)) | (with_reducible refine bl_set ?_ ?_ _) | (simp; done) | (simp; omega) | omega)))) hl).mono ?_; rintro e w1 ⟨A1, c1, rfl, ow1, b1⟩; obtain ⟨k1, f1, z1⟩ := bcell b1); have y1 : w.heap.size < w1.heap.size := z1 _ (by (first | omega | (simp; done) | (simp; omega))); have y1' : w.heap.size + 1 < w1.heap.size := z1 _ (by (first | omega | (simp; done) | (simp; omega))); have u1 : w1.cell? ⟨w.heap.size + 1, 0, none⟩ = some (.int .i64 0) := (k1 _ _ (by (first | omega | (simp; done) | (simp; omega)))).trans (by simp [go_sem]); have u2 : w1.cell? ⟨w.heap.size + 1, 1, none⟩ = some (.slice none 0 0) := (k1 _ _ (by (first | omega | (simp; done) | (simp; omega)))).trans (by simp [go_sem]))
    refine wp_loop_rounds 1 ?_
    rw [rounds_succ]
    go_wp2_with ((go_at_call 17; refine (discS_ok _ _ l _ (h1.bl (by (repeat' (first | (with_reducible exact Below.refl _ _) | (with_reducible refine bl_alloc ?_ _) | (with_reducible refine bl_drewN ?_ _) | (with_reducible refine bl_drew ?_) | (with_reducible assumption) | (with_reducible refine bl_to ?_ (by assumption)) | (with_reducible refine Below.trans ?_ (by assumption)) | (with_reducible refine Below.trans ?_ (Below.mono (by assumption) ?_)) | (with_reducible refine bl_set ?_ ?_ _) | (simp; done) | (simp; omega) | omega)))) hl).mono ?_; rintro e w2 ⟨rfl, b2⟩; obtain ⟨k2, f2, z2⟩ := bcell b2); have q1 : w2.cell? ⟨w.heap.size + 1, 0, none⟩ = some (.int .i64 0) := (k2 _ _ (by (first | omega | (simp; done) | (simp; omega)))).trans (by simp [go_sem, k1, y1']); have q2 : w2.cell? ⟨w.heap.size + 1, 1, none⟩ = some (.slice none 0 0) := (k2 _ _ (by (first | omega | (simp; done) | (simp; omega)))).trans (by simp [go_sem, k1, y1']))
    exact bodyPost_ret (v := .agg #[.int .i64 r, .slice A1 l.length c1]) (by simp [results, Try.results25, go_sem, q1, q2]) rfl ⟨_, _, rfl, by (apply own_lo; repeat' (first | (with_reducible assumption) | (with_reducible apply ownsRow_setCell_below) | (with_reducible apply World.ownsRow.alloc) | (with_reducible apply own_drewN) | (with_reducible apply World.ownsRow.drew) | (with_reducible apply own_bl2) | (simp; done) | (simp; omega) | omega)), by (repeat' (first | (with_reducible exact Below.refl _ _) | (with_reducible refine bl_alloc ?_ _) | (with_reducible refine bl_drewN ?_ _) | (with_reducible refine bl_drew ?_) | (with_reducible assumption) | (with_reducible refine bl_to ?_ (by assumption)) | (with_reducible refine Below.trans ?_ (by assumption)) | (with_reducible refine Below.trans ?_ (Below.mono (by assumption) ?_)) | (with_reducible refine bl_set ?_ ?_ _) | (simp; done) | (simp; omega) | omega))⟩
  · obtain ⟨⟨r1, r2⟩, ⟨n1, n2⟩, _⟩ := discB_iff ho
    have hF : flipF r l = flipL l := by simp [flipF, ho]
    rw [hF]
    clear hF
    go_enter Try.func25, Try.ntmps25
    go_wp2_with ((go_at_call 69; refine (l26Copy_any _ _ l _ (h1.bl (by (repeat' (first | (with_reducible exact Below.refl _ _) | (with_reducible refine bl_alloc ?_ _) | (with_reducible refine bl_drewN ?_ _) | (with_reducible refine bl_drew ?_) | (with_reducible assumption) | (with_reducible refine bl_to ?_ (by assumption)) | (with_reducible refine Below.trans ?_ (by assumption)) | (with_reducible refine Below.trans ?_ (Below.mono (by assumption) ?_)) | (with_reducible refine bl_set ?_ ?_ _) | (simp; done) | (simp; omega) | omega)))) hl).mono ?_; rintro e w1 ⟨A1, c1, rfl, ow1, b1⟩; obtain ⟨k1, f1, z1⟩ := bcell b1); have y1 : w.heap.size < w1.heap.size := z1 _ (by (first | omega | (simp; done) | (simp; omega))); have y1' : w.heap.size + 1 < w1.heap.size := z1 _ (by (first | omega | (simp; done) | (simp; omega))); have u1 : w1.cell? ⟨w.heap.size + 1, 0, none⟩ = some (.int .i64 0) := (k1 _ _ (by (first | omega | (simp; done) | (simp; omega)))).trans (by simp [go_sem]); have u2 : w1.cell? ⟨w.heap.size + 1, 1, none⟩ = some (.slice none 0 0) := (k1 _ _ (by (first | omega | (simp; done) | (simp; omega)))).trans (by simp [go_sem]))
    obtain ⟨g, rfl, g1, g2⟩ := own_head ow1 (by omega)
    simp only [World.size_alloc] at g1
    have x1 : (w1.alloc (.cells #[.int .i64 r, .slice (some ⟨g, 0, none⟩) l.length c1] 27)).cell? ⟨w.heap.size, 1, none⟩ = some (.slice A0 l.length c0) := by simp [go_sem, k1, y1]
    have x0 : (w1.alloc (.cells #[.int .i64 r, .slice (some ⟨g, 0, none⟩) l.length c1] 27)).cell? ⟨w.heap.size, 0, none⟩ = some (.int .i64 r) := by simp [go_sem, k1, y1]
    have x2 : (w1.alloc (.cells #[.int .i64 r, .slice (some ⟨g, 0, none⟩) l.length c1] 27)).cell? ⟨w1.heap.size, 1, none⟩ = some (.slice (some ⟨g, 0, none⟩) l.length c1) := by simp [go_sem]
    have x3 : (w1.alloc (.cells #[.int .i64 r, .slice (some ⟨g, 0, none⟩) l.length c1] 27)).cell? ⟨w1.heap.size, 0, none⟩ = some (.int .i64 r) := by simp [go_sem]
    have x4 : (w1.alloc (.cells #[.int .i64 r, .slice (some ⟨g, 0, none⟩) l.length c1] 27)).frozen? ⟨w.heap.size + 1, 0, none⟩ = false := by simp [go_sem, f1, y1']
    have x5 : (w1.alloc (.cells #[.int .i64 r, .slice (some ⟨g, 0, none⟩) l.length c1] 27)).frozen? ⟨w.heap.size + 1, 1, none⟩ = false := by simp [go_sem, f1, y1']
    have q1 : (w1.alloc (.cells #[.int .i64 r, .slice (some ⟨g, 0, none⟩) l.length c1] 27)).cell? ⟨w.heap.size + 1, 0, none⟩ = some (.int .i64 0) := by simp [go_sem, u1, y1']
    have q2 : (w1.alloc (.cells #[.int .i64 r, .slice (some ⟨g, 0, none⟩) l.length c1] 27)).cell? ⟨w.heap.size + 1, 1, none⟩ = some (.slice none 0 0) := by simp [go_sem, u2, y1']
    have ow2 : (w1.alloc (.cells #[.int .i64 r, .slice (some ⟨g, 0, none⟩) l.length c1] 27)).ownsRow (w.heap.size + 2) 3 1 (.slice (some ⟨g, 0, none⟩) l.length c1) l.length (cI l) := by (apply own_lo; repeat' (first | (with_reducible assumption) | (with_reducible apply ownsRow_setCell_below) | (with_reducible apply World.ownsRow.alloc) | (with_reducible apply own_drewN) | (with_reducible apply World.ownsRow.drew) | (with_reducible apply own_bl2) | (simp; done) | (simp; omega) | omega))
    have bel2 : Below w.heap.size w (w1.alloc (.cells #[.int .i64 r, .slice (some ⟨g, 0, none⟩) l.length c1] 27)) := by (repeat' (first | (with_reducible exact Below.refl _ _) | (with_reducible refine bl_alloc ?_ _) | (with_reducible refine bl_drewN ?_ _) | (with_reducible refine bl_drew ?_) | (with_reducible assumption) | (with_reducible refine bl_to ?_ (by assumption)) | (with_reducible refine Below.trans ?_ (by assumption)) | (with_reducible refine Below.trans ?_ (Below.mono (by assumption) ?_)) | (with_reducible refine bl_set ?_ ?_ _) | (simp; done) | (simp; omega) | omega))
    have sz2 : w1.heap.size < (w1.alloc (.cells #[.int .i64 r, .slice (some ⟨g, 0, none⟩) l.length c1] 27)).heap.size := by simp
    clear k1 f1 z1 ow1 b1 u1 u2
    go_loopw [5] (fun i wr => ∃ k : Nat, k ≤ l.length ∧ i = .int .i64 k ∧ Below w.heap.size w wr ∧ wr.ownsRow (w.heap.size + 2) 3 1 (.slice (some ⟨g, 0, none⟩) l.length c1) l.length (cI (setsL l (fun k => (l.length - k) % l.length) (gi l) k)) ∧ w1.heap.size < wr.heap.size ∧ wr.cell? ⟨w.heap.size + 1, 0, none⟩ = some (.int .i64 0) ∧ wr.cell? ⟨w.heap.size + 1, 1, none⟩ = some (.slice none 0 0) ∧ wr.cell? ⟨w.heap.size, 1, none⟩ = some (.slice A0 l.length c0) ∧ wr.cell? ⟨w.heap.size, 0, none⟩ = some (.int .i64 r) ∧ wr.cell? ⟨w1.heap.size, 1, none⟩ = some (.slice (some ⟨g, 0, none⟩) l.length c1) ∧ wr.cell? ⟨w1.heap.size, 0, none⟩ = some (.int .i64 r) ∧ wr.frozen? ⟨w.heap.size + 1, 0, none⟩ = false ∧ wr.frozen? ⟨w.heap.size + 1, 1, none⟩ = false) (fun i _ => l.length - (intOf i).toNat)
    case atStart => exact ⟨0, Nat.zero_le _, rfl, bel2, ow2, sz2, q1, q2, x1, x0, x2, x3, x4, x5⟩
    case round =>
      clear q1 q2 x1 x0 x2 x3 x4 x5 ow2 bel2 sz2
      obtain ⟨k, hk, rfl, bel, ow, sz, q1, q2, x1, x0, x2, x3, x4, x5⟩ := hrel
      have sl := setsL_len l (fun k => (l.length - k) % l.length) (gi l) k
      have SL := Lib.hid sl
      clear sl
      by_cases hlt : k < l.length
      · have hlt' : (k : Int) < (l.length : Int) := by omega
        obtain ⟨J, hJ⟩ : ∃ J : Nat, (l.length - k) % l.length = J := ⟨_, rfl⟩
        have hm : J < l.length := by rw [← hJ]; exact Nat.mod_lt _ (by omega)
        have i3 : ((l.length : Int) - (k : Int)) % (l.length : Int) = (J : Int) := by rw [show (l.length : Int) - (k : Int) = ((l.length - k : Nat) : Int) from by omega, ← Int.natCast_emod, hJ]
        have HJ := Lib.hid hJ
        clear hJ
        have I3 := Lib.hid i3
        clear i3
        go_wp2_with (first | (go_at_call 17; refine (discS_ok _ _ l _ (h1.bl bel) hl).mono ?_; rintro e w2 ⟨rfl, b2⟩; obtain ⟨k2, f2, z2⟩ := bcell b2))
        have bel2 : Below w.heap.size w w2 := bl_to bel b2
        have own2 := own_bl ow b2
        have sz2 := Nat.lt_of_lt_of_le sz b2.size
        have q1' := (k2 (w.heap.size + 1) 0 (by omega)).trans q1
        have q2' := (k2 (w.heap.size + 1) 1 (by omega)).trans q2
        have x1' := (k2 w.heap.size 1 (by omega)).trans x1
        have x0' := (k2 w.heap.size 0 (by omega)).trans x0
        have x2' := (k2 w1.heap.size 1 (by omega)).trans x2
        have x3' := (k2 w1.heap.size 0 (by omega)).trans x3
        have x4' := (f2 (w.heap.size + 1) 0 (by omega)).trans x4
        have x5' := (f2 (w.heap.size + 1) 1 (by omega)).trans x5
        have st := own2.stored J (.int .i64 (gi l k))
        have ow' := st.1
        rw [cI_set] at ow'
        obtain ⟨g0, o0, rfl, hg0, rd⟩ := h1.look (by omega)
        have e1 := (bel2.cell (p := ⟨g0, o0 + k, none⟩) hg0).trans (rd k _ (cI_get hlt))
        have e2 : w2.cell? ⟨g, J, none⟩ = some (.int .i64 (gi (setsL l (fun k => (l.length - k) % l.length) (gi l) k) J)) := (own2.cellAt _ (by omega)).trans (cI_get (by rw [SL.out]; exact hm))
        have e3 := own2.frozenAt J
        have bel' : Below w.heap.size w (w2.drew.setCell ⟨g, J, none⟩ (.int .i64 (gi l k))) := bl_set (bl_drew bel2) (by simp; omega) _
        have i3 := I3.out
        clear rd st h1 k2 f2 z2 q1 q2 x1 x0 x2 x3 x4 x5 ow bel own2
        go_region
        go_wp2
        go_roundw
        case rel => exact ⟨k + 1, by omega, by go_num, bel', by rw [setsL_at (idx := fun k => (l.length - k) % l.length) HJ.out]; exact ow', by simp; omega, cell_far q1' (by omega), cell_far q2' (by omega), cell_far x1' (by omega), cell_far x0' (by omega), cell_far x2' (by omega), cell_far x3' (by omega), froz_far x4' (by omega), froz_far x5' (by omega)⟩
        case measure => simp [intOf]; omega
      · obtain rfl : k = l.length := by omega
        go_wp2
        exact bodyPost_ret (v := .agg #[.int .i64 r, .slice (some ⟨g, 0, none⟩) (flipL l).length c1]) (by simp [results, Try.results25, go_sem, q1, q2, flipL, SL.out]) rfl ⟨_, _, rfl, by rw [flipL, SL.out]; (apply own_lo; repeat' (first | (with_reducible assumption) | (with_reducible apply ownsRow_setCell_below) | (with_reducible apply World.ownsRow.alloc) | (with_reducible apply own_drewN) | (with_reducible apply World.ownsRow.drew) | (with_reducible apply own_bl2) | (simp; done) | (simp; omega) | omega)), by (repeat' (first | (with_reducible exact Below.refl _ _) | (with_reducible refine bl_alloc ?_ _) | (with_reducible refine bl_drewN ?_ _) | (with_reducible refine bl_drew ?_) | (with_reducible assumption) | (with_reducible refine bl_to ?_ (by assumption)) | (with_reducible refine Below.trans ?_ (by assumption)) | (with_reducible refine Below.trans ?_ (Below.mono (by assumption) ?_)) | (with_reducible refine bl_set ?_ ?_ _) | (simp; done) | (simp; omega) | omega))⟩
end Go.Proofs.Ytoijjjaodfincaa
