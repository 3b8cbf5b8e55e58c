/- The copies of a slice of entries, of the program and of the reference; sizes up to 2^20. -/
import Derived.Test.YtighmoedkknkoaaAppEntry
import Derived.Deep.DeepCutAuto
import Derived.Deep.RegionHeld3
namespace Go.Proofs.Ytighmoedkknkoaa
open Go.RowKit

theorem Apart.cell {a b : Nat} {w w' : World} (h : Apart a b w w') {B : Nat} (hB : B < w.heap.size) (hb : B < a ∨ b ≤ B) (o : Nat) : w'.cell? ⟨B, o, none⟩ = w.cell? ⟨B, o, none⟩ :=
  World.cell?_of_block (h.block B hB hb)
theorem bl_apart {w W w' : World} {a b : Nat} (h : Below w.heap.size w W) (p : Apart a b W w') (ha : w.heap.size ≤ a) : Below w.heap.size w w' :=
  h.trans (p.below ha h.size)
set_option maxHeartbeats 3200000 in
set_option maxRecDepth 100000 in
theorem copyCatI_any (v : Value) (l : List En) (w : World) (h1 : RdE w v l) (hl : l.length + szE l ≤ 1048577) :
    Calls Try.prog 41 #[v] w (NewE l w) := by
  obtain ⟨A1, c1, rfl, _, hm⟩ := h1.form
  unfold maxLen at hm
  have o0 : OwnE w.heap.size (w.heap.size + 1) (w.alloc (.cells #[] 41)) (.slice (some ⟨w.heap.size, 0, none⟩) 0 0) [] :=
    ⟨w.heap.size, [], OwnT.nil _ _ _ _, own_new0 (Nat.le_refl _) rfl, fun b e => by simp [Value.ownBlock] at e; omega⟩
  go_enter Try.func41, Try.ntmps41
  go_wp2
  go_loopw [3, 9] (fun q i wr => ∃ k : Nat, k ≤ l.length ∧ i = .int .i64 k ∧ OwnE w.heap.size wr.heap.size wr q (l.take k) ∧ Below w.heap.size w wr) (fun _ i _ => l.length - (intOf i).toNat)
  case atStart => exact ⟨0, Nat.zero_le _, rfl, by simpa using o0.hig (by simp), bl_alloc (Below.refl _ _) _⟩
  case round =>
    clear o0
    obtain ⟨k, hk, rfl, ow, bel⟩ := hrel
    by_cases hlt : k < l.length
    · have hpl : (l.take k).length ≤ l.length := by rw [List.length_take]; omega
      have htk := take_succ_gE hlt
      obtain ⟨P, hP⟩ : ∃ P, l.take k = P := ⟨_, rfl⟩
      rw [hP] at ow hpl htk
      obtain ⟨A3, c3, rfl⟩ := ow.form
      obtain ⟨b, o, vt, rfl, hb, e0, e1, rt⟩ := RdE.at_ (h1.bl bel) hlt
      obtain ⟨Av, cv, rfl, _, _⟩ := rt.form
      have hat := szE_at hlt
      obtain ⟨s, hs⟩ : ∃ s, (gE l k).1 = s := ⟨_, rfl⟩
      obtain ⟨m, hm2⟩ : ∃ m, (gE l k).2 = m := ⟨_, rfl⟩
      obtain ⟨L, hL⟩ : ∃ L, l.take (k + 1) = L := ⟨_, rfl⟩
      rw [show gE l k = (s, m) from Prod.ext hs hm2, hL] at htk
      rw [hs] at e0 hat
      rw [hm2] at e1 rt hat
      have HL := Lib.hid htk
      have HT := Lib.hid hL
      have hlt' : (k : Int) < (l.length : Int) := by omega
      have szr := bel.size
      have ba := bl_alloc (Below.refl _ wr) (.cells #[.string s, .slice Av m.length cv] 41)
      have q0 : (wr.alloc (.cells #[.string s, .slice Av m.length cv] 41)).cell? ⟨wr.heap.size, 0, none⟩ = some (.string s) := by simp [go_sem]
      have q1 : (wr.alloc (.cells #[.string s, .slice Av m.length cv] 41)).cell? ⟨wr.heap.size, 1, none⟩ = some (.slice Av m.length cv) := by simp [go_sem]
      have q9 : wr.heap.size < (wr.alloc (.cells #[.string s, .slice Av m.length cv] 41)).heap.size := by simp
      have bel2 := bl_to bel ba
      have rt2 := rt.bl ba
      have ow2 := ow.bl ba
      clear hP hL hs hm2 htk h1 rt ow bel
      go_upto_region 5 with (fail)
      clear ba e0 e1 hb
      generalize wr.alloc (.cells #[.string s, .slice Av m.length cv] 41) = w2 at *
      generalize wr.heap.size = B at *
      go_region_held3 (fun w' => w'.cell? ⟨B, 0, none⟩ = some (.string s) ∧ w'.cell? ⟨B, 1, none⟩ = some (.slice Av m.length cv))
        (first | exact ⟨x0, x1⟩ | exact ⟨u0, u1⟩ | go_keep)
        (first
          | (refine step_is_append (.tmp 13) (.tmp 20) _ rfl ?_; refine step_app_E _ (by rfl) _ _ (by rfl) w.heap.size B _ P (by rfl) (ow2.bl (by (repeat' (first | (with_reducible exact Below.refl _ _) | (with_reducible refine bl_alloc ?_ _) | (with_reducible refine bl_drewN ?_ _) | (with_reducible refine bl_drew ?_) | (with_reducible assumption) | (with_reducible refine bl_to ?_ (by assumption)) | (with_reducible refine Below.trans ?_ (by assumption)) | (with_reducible refine Below.trans ?_ (Below.mono (by assumption) ?_)) | (with_reducible refine bl_set ?_ ?_ _) | (simp; done) | (simp; omega) | omega)))) B (wA.heap.size + 1) _ [(s, m)] (by rfl) y9 (by omega) w.heap.size (by omega) (by omega) (by simp; omega) (by simp; omega) L HL.out.symm ?_; intro A4 c4 w4 o4 p4; have x0 := (p4.cell (B := B) (by simp; omega) (.inr (Nat.le_refl _)) 0).trans ((World.cell?_alloc_lt wA _ ⟨B, 0, none⟩ (by omega)).trans u0); have x1 := (p4.cell (B := B) (by simp; omega) (.inr (Nat.le_refl _)) 1).trans ((World.cell?_alloc_lt wA _ ⟨B, 1, none⟩ (by omega)).trans u1))
          | (go_at_call 60; refine (copyNotes_any _ m _ (rt2.bl (by (repeat' (first | (with_reducible exact Below.refl _ _) | (with_reducible refine bl_alloc ?_ _) | (with_reducible refine bl_drewN ?_ _) | (with_reducible refine bl_drew ?_) | (with_reducible assumption) | (with_reducible refine bl_to ?_ (by assumption)) | (with_reducible refine Below.trans ?_ (by assumption)) | (with_reducible refine Below.trans ?_ (Below.mono (by assumption) ?_)) | (with_reducible refine bl_set ?_ ?_ _) | (simp; done) | (simp; omega) | omega)))) (by omega)).mono ?_; rintro e wA ⟨Aa, ca, rfl, oA, bA⟩; have y2 : w2.heap.size ≤ wA.heap.size := bA.size; have y3 : B < wA.heap.size := Nat.lt_of_lt_of_le q9 bA.size; have y9 := OwnE.one (s := s) (own_lo (lo' := B) oA (Nat.le_of_lt q9)) (Nat.le_of_lt y3); have u0 := (bA.cell (p := ⟨B, 0, none⟩) q9).trans (show _ = _ from q0); have u1 := (bA.cell (p := ⟨B, 1, none⟩) q9).trans (show _ = _ from q1)))
      all_goals
        have bel5 : Below w.heap.size w w4 := bl_apart (w := w) (by (repeat' (first | (with_reducible exact Below.refl _ _) | (with_reducible refine bl_alloc ?_ _) | (with_reducible refine bl_drewN ?_ _) | (with_reducible refine bl_drew ?_) | (with_reducible assumption) | (with_reducible refine bl_to ?_ (by assumption)) | (with_reducible refine Below.trans ?_ (by assumption)) | (with_reducible refine Below.trans ?_ (Below.mono (by assumption) ?_)) | (with_reducible refine bl_set ?_ ?_ _) | (simp; done) | (simp; omega) | omega))) p4 (Nat.le_refl _)
        go_wp2
        go_roundw
        case rel => exact ⟨k + 1, by omega, by go_num, by rw [HT.out]; exact o4, bel5⟩
        case measure => simp [intOf]; omega
    · obtain rfl : k = l.length := by omega
      have hlt' : ¬ (l.length : Int) < (l.length : Int) := by omega
      rw [List.take_length] at ow
      obtain ⟨A3, c3, rfl⟩ := ow.form
      go_wp2
      go_ret
      exact ⟨_, _, rfl, ow, bel⟩
set_option maxHeartbeats 3200000 in
set_option maxRecDepth 100000 in
theorem copyCatS_any (v : Value) (l : List En) (w : World) (h1 : RdE w v l) (hl : l.length + szE l ≤ 1048577) :
    Calls Try.prog 40 #[v] w (NewE l w) := by
  obtain ⟨A1, c1, rfl, _, hm⟩ := h1.form
  unfold maxLen at hm
  have o0 : OwnE w.heap.size (w.heap.size + 1) (w.alloc (.cells #[] 41)) (.slice (some ⟨w.heap.size, 0, none⟩) 0 0) [] :=
    ⟨w.heap.size, [], OwnT.nil _ _ _ _, own_new0 (Nat.le_refl _) rfl, fun b e => by simp [Value.ownBlock] at e; omega⟩
  go_enter Try.func40, Try.ntmps40
  go_wp2
  go_loopw [3, 4] (fun q i wr => ∃ k : Nat, k ≤ l.length ∧ i = .int .i64 k ∧ OwnE w.heap.size wr.heap.size wr q (l.take k) ∧ Below w.heap.size w wr) (fun _ i _ => l.length - (intOf i).toNat)
  case atStart => exact ⟨0, Nat.zero_le _, rfl, by simpa using o0.hig (by simp), bl_alloc (Below.refl _ _) _⟩
  case round =>
    clear o0
    obtain ⟨k, hk, rfl, ow, bel⟩ := hrel
    by_cases hlt : k < l.length
    · have hpl : (l.take k).length ≤ l.length := by rw [List.length_take]; omega
      have htk := take_succ_gE hlt
      obtain ⟨P, hP⟩ : ∃ P, l.take k = P := ⟨_, rfl⟩
      rw [hP] at ow hpl htk
      obtain ⟨A3, c3, rfl⟩ := ow.form
      obtain ⟨b, o, vt, rfl, hb, e0, e1, rt⟩ := RdE.at_ h1 hlt
      have e0 := (bel.cell (p := ⟨b, o + k * 2, none⟩) hb).trans e0
      have e1 := (bel.cell (p := ⟨b, o + k * 2 + 1, none⟩) hb).trans e1
      replace rt := rt.bl bel
      obtain ⟨Av, cv, rfl, _, _⟩ := rt.form
      have hat := szE_at hlt
      obtain ⟨s, hs⟩ : ∃ s, (gE l k).1 = s := ⟨_, rfl⟩
      obtain ⟨m, hm2⟩ : ∃ m, (gE l k).2 = m := ⟨_, rfl⟩
      obtain ⟨L, hL⟩ : ∃ L, l.take (k + 1) = L := ⟨_, rfl⟩
      rw [show gE l k = (s, m) from Prod.ext hs hm2, hL] at htk
      rw [hs] at e0 hat
      rw [hm2] at e1 rt hat
      have HL := Lib.hid htk
      have HT := Lib.hid hL
      have hlt' : (k : Int) < (l.length : Int) := by omega
      have szr := bel.size
      have q9 : b < w.heap.size := hb
      have szw : w.heap.size ≤ wr.heap.size := bel.size
      obtain ⟨B, hB⟩ : ∃ B, wr.heap.size = B := ⟨_, rfl⟩
      rw [hB] at ow
      have szB : w.heap.size ≤ B := by omega
      have hB' : wr.heap.size ≤ B := by omega
      have hB2 : B ≤ wr.heap.size := by omega
      clear hP hL hs hm2 htk h1 hB
      go_upto_region 5 with (fail)
      go_region_held3 (fun w' => w'.cell? ⟨b, o + k * 2, none⟩ = some (.string s) ∧ w'.cell? ⟨b, o + k * 2 + 1, none⟩ = some (.slice Av m.length cv))
        (first | exact ⟨x0, x1⟩ | exact ⟨u0, u1⟩ | go_keep)
        (first
          | (refine step_is_append (.tmp 12) (.tmp 25) _ rfl ?_; refine step_app_E _ (by rfl) _ _ (by rfl) w.heap.size B _ P (by rfl) (ow.bl (by (repeat' (first | (with_reducible exact Below.refl _ _) | (with_reducible refine bl_alloc ?_ _) | (with_reducible refine bl_drewN ?_ _) | (with_reducible refine bl_drew ?_) | (with_reducible assumption) | (with_reducible refine bl_to ?_ (by assumption)) | (with_reducible refine Below.trans ?_ (by assumption)) | (with_reducible refine Below.trans ?_ (Below.mono (by assumption) ?_)) | (with_reducible refine bl_set ?_ ?_ _) | (simp; done) | (simp; omega) | omega)))) B (wA.heap.size + 1) _ [(s, m)] (by rfl) y9 (by omega) w.heap.size (by omega) (by omega) (by simp; omega) (by simp; omega) L HL.out.symm ?_; intro A4 c4 w4 o4 p4; have x0 := (p4.cell (B := b) (by simp; omega) (.inl q9) _).trans ((World.cell?_alloc_lt wA _ ⟨b, o + k * 2, none⟩ (by show b < _; omega)).trans u0); have x1 := (p4.cell (B := b) (by simp; omega) (.inl q9) _).trans ((World.cell?_alloc_lt wA _ ⟨b, o + k * 2 + 1, none⟩ (by show b < _; omega)).trans u1))
          | (go_at_call 46; refine (l02Copy_any _ m _ (rt.bl (by (repeat' (first | (with_reducible exact Below.refl _ _) | (with_reducible refine bl_alloc ?_ _) | (with_reducible refine bl_drewN ?_ _) | (with_reducible refine bl_drew ?_) | (with_reducible assumption) | (with_reducible refine bl_to ?_ (by assumption)) | (with_reducible refine Below.trans ?_ (by assumption)) | (with_reducible refine Below.trans ?_ (Below.mono (by assumption) ?_)) | (with_reducible refine bl_set ?_ ?_ _) | (simp; done) | (simp; omega) | omega)))) (by omega)).mono ?_; rintro e wA ⟨Aa, ca, rfl, oA, bA⟩; have y2 : wr.heap.size ≤ wA.heap.size := bA.size; have y9 := OwnE.one (s := s) (own_lo (lo' := B) oA hB2) (by omega); have u0 := (bA.cell (p := ⟨b, o + k * 2, none⟩) (by show b < wr.heap.size; omega)).trans (show _ = _ from e0); have u1 := (bA.cell (p := ⟨b, o + k * 2 + 1, none⟩) (by show b < wr.heap.size; omega)).trans (show _ = _ from e1)))
      all_goals
        have bel5 : Below w.heap.size w w4 := bl_apart (w := w) (by (repeat' (first | (with_reducible exact Below.refl _ _) | (with_reducible refine bl_alloc ?_ _) | (with_reducible refine bl_drewN ?_ _) | (with_reducible refine bl_drew ?_) | (with_reducible assumption) | (with_reducible refine bl_to ?_ (by assumption)) | (with_reducible refine Below.trans ?_ (by assumption)) | (with_reducible refine Below.trans ?_ (Below.mono (by assumption) ?_)) | (with_reducible refine bl_set ?_ ?_ _) | (simp; done) | (simp; omega) | omega))) p4 (Nat.le_refl _)
        go_wp2
        go_roundw
        case rel => exact ⟨k + 1, by omega, by go_num, by rw [HT.out]; exact o4, bel5⟩
        case measure => simp [intOf]; omega
    · obtain rfl : k = l.length := by omega
      have hlt' : ¬ (l.length : Int) < (l.length : Int) := by omega
      rw [List.take_length] at ow
      obtain ⟨A3, c3, rfl⟩ := ow.form
      go_wp2
      go_ret
      exact ⟨_, _, rfl, ow, bel⟩
end Go.Proofs.Ytighmoedkknkoaa
