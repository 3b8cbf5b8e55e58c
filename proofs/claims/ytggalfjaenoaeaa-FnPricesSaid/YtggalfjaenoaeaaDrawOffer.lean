/- The drawn offer. -/
import Derived.Test.YtggalfjaenoaeaaDraw
namespace Go.Proofs.Ytggalfjaenoaeaa
open Go.RowKit

/-- blocks but cb keep their cells and marks -/
theorem gr_keeps {w w' : World} {cb : Nat} (h : w.grownBy w' (some cb)) : (∀ b o, b < w.heap.size → b ≠ cb → w'.cell? ⟨b, o, none⟩ = w.cell? ⟨b, o, none⟩) ∧ (∀ b o, b < w.heap.size → b ≠ cb → w'.frozen? ⟨b, o, none⟩ = w.frozen? ⟨b, o, none⟩) ∧ ∀ b, b < w.heap.size → b < w'.heap.size :=
  ⟨fun b o hb hn => World.cell?_of_block (h.block b hb (fun e => hn (by cases e; rfl))), fun b o hb hn => World.frozen?_of_block (h.block b hb (fun e => hn (by cases e; rfl))), fun _ hb => Nat.lt_of_lt_of_le hb h.size⟩

theorem Cur.lt {w0 w : World} {cb : Nat} {v : Value} {L : List Int} (h : Cur w0 w cb v L) : cb < w.heap.size := by
  obtain ⟨x, e⟩ := h.c2
  have := World.block_lt_of_cell? w ⟨cb, 2, none⟩ e
  simpa using this
theorem Cur.alloc {w0 w : World} {cb : Nat} {v : Value} {L : List Int} (h : Cur w0 w cb v L) (o : Obj) : Cur w0 (w.alloc o) cb v L := by
  have hl := h.lt
  obtain ⟨bel, low, c0, ⟨i, hi, c1⟩, ⟨x, c2⟩, f1, f2⟩ := h
  exact ⟨bl_alloc bel o, low, (World.cell?_alloc_lt w o ⟨cb, 0, none⟩ hl).trans c0, ⟨i, hi, (World.cell?_alloc_lt w o ⟨cb, 1, none⟩ hl).trans c1⟩, ⟨x, (World.cell?_alloc_lt w o ⟨cb, 2, none⟩ hl).trans c2⟩, by simp [go_sem, hl, f1], by simp [go_sem, hl, f2]⟩
theorem Cur.set {w0 w : World} {cb : Nat} {v : Value} {L : List Int} (h : Cur w0 w cb v L) {B o : Nat} (u : Value) (hB : w0.heap.size ≤ B) (hne : cb ≠ B) : Cur w0 (w.setCell ⟨B, o, none⟩ u) cb v L := by
  obtain ⟨bel, low, c0, ⟨i, hi, c1⟩, ⟨x, c2⟩, f1, f2⟩ := h
  have hc : ∀ k, (w.setCell ⟨B, o, none⟩ u).cell? ⟨cb, k, none⟩ = w.cell? ⟨cb, k, none⟩ := fun k => World.cell?_of_block (Below.heap_setCell w ⟨B, o, none⟩ u cb hne)
  have hf : ∀ k, (w.setCell ⟨B, o, none⟩ u).frozen? ⟨cb, k, none⟩ = w.frozen? ⟨cb, k, none⟩ := fun k => World.frozen?_of_block (Below.heap_setCell w ⟨B, o, none⟩ u cb hne)
  exact ⟨bl_set bel hB u, low, (hc 0).trans c0, ⟨i, hi, (hc 1).trans c1⟩, ⟨x, (hc 2).trans c2⟩, (hf 1).trans f1, (hf 2).trans f2⟩

set_option maxHeartbeats 800000 in
theorem l31Offer_any (w0 : World) (cb : Nat) (v : Value) (L : List Int) (w : World) (h0 : RdB w0 v L) (hl : L.length ≤ 1048576) (hc : Cur w0 w cb v L) :
    Calls Try.prog 55 #[.pointer (some ⟨cb, 0, none⟩)] w fun e w' => ∃ a b d : Int, (1 ≤ a ∧ a ≤ 24) ∧ (0 ≤ b ∧ b ≤ 100) ∧ (0 ≤ d ∧ d ≤ 3) ∧ e = .returned (.agg #[.int .i64 a, .int .i64 b, .int .i64 d]) ∧ Cur w0 w' cb v L := by
  have hlt := hc.lt
  have hc0 := hc.alloc (Obj.cells #[Value.int IntKind.i64 0, Value.int IntKind.i64 0, Value.int IntKind.i64 0] 27)
  have hlo := hc.low
  have hsz := hc.bel.size
  go_enter Try.func55, Try.ntmps55
  go_wp2_with (first | (go_at_call 57; refine (below_any _ _ _ _ _ _ h0 hl hc2).mono ?_; rintro e w3 ⟨x3, ⟨lo3, hi3⟩, rfl, hc3, g3⟩; have ks := gr_keeps (gr_tr g1 (gr_tr g2 g3)); have p0 : w3.frozen? ⟨w.heap.size, 0, none⟩ = false := (ks.2.1 w.heap.size 0 (by simp) (by omega)).trans (by simp [go_sem]); have r0 : w3.cell? ⟨w.heap.size, 0, none⟩ = some (.int .i64 0) := (ks.1 w.heap.size 0 (by simp) (by omega)).trans (by simp [go_sem]); have p1 : w3.frozen? ⟨w.heap.size, 1, none⟩ = false := (ks.2.1 w.heap.size 1 (by simp) (by omega)).trans (by simp [go_sem]); have r1 : w3.cell? ⟨w.heap.size, 1, none⟩ = some (.int .i64 0) := (ks.1 w.heap.size 1 (by simp) (by omega)).trans (by simp [go_sem]); have p2 : w3.frozen? ⟨w.heap.size, 2, none⟩ = false := (ks.2.1 w.heap.size 2 (by simp) (by omega)).trans (by simp [go_sem]); have r2 : w3.cell? ⟨w.heap.size, 2, none⟩ = some (.int .i64 0) := (ks.1 w.heap.size 2 (by simp) (by omega)).trans (by simp [go_sem]); clear ks) | (go_at_call 57; refine (below_any _ _ _ _ _ _ h0 hl hc1).mono ?_; rintro e w2 ⟨x2, ⟨lo2, hi2⟩, rfl, hc2, g2⟩) | (go_at_call 57; refine (below_any _ _ _ _ _ _ h0 hl hc0).mono ?_; rintro e w1 ⟨x1, ⟨lo1, hi1⟩, rfl, hc1, g1⟩))
  exact bodyPost_ret (v := .agg #[.int .i64 (1 + x1), .int .i64 x2, .int .i64 x3]) (by simp [results, Try.results55, go_sem, r0, r1, r2]) rfl ⟨_, _, _, by omega, by omega, by omega, rfl, ((hc3.set _ (by omega) (by omega)).set _ (by omega) (by omega)).set _ (by omega) (by omega)⟩

set_option maxHeartbeats 800000 in
theorem drawOffer_any (v : Value) (L : List Int) (w : World) (h0 : RdB w v L) (hl : L.length ≤ 1048576) :
    Calls Try.prog 46 #[v] w fun e w' => ∃ a b d : Int, (1 ≤ a ∧ a ≤ 24) ∧ (0 ≤ b ∧ b ≤ 100) ∧ (0 ≤ d ∧ d ≤ 3) ∧ e = .returned (.agg #[.int .i64 a, .int .i64 b, .int .i64 d]) ∧ Below w.heap.size w w' := by
  have h1 : RdB (w.alloc (Obj.cells #[Value.int IntKind.i64 0, Value.int IntKind.i64 0, Value.int IntKind.i64 0] 27)) v L := h0.bl (by (repeat' (first | (with_reducible exact Below.refl _ _) | (with_reducible refine bl_alloc ?_ _) | (with_reducible refine bl_drewN ?_ _) | (with_reducible refine bl_drew ?_) | (with_reducible assumption) | (with_reducible refine bl_to ?_ (by assumption)) | (with_reducible refine Below.trans ?_ (by assumption)) | (with_reducible refine Below.trans ?_ (Below.mono (by assumption) ?_)) | (with_reducible refine bl_set ?_ ?_ _) | (simp; done) | (simp; omega) | omega)))
  go_enter Try.func46, Try.ntmps46
  go_wp2_with (first | (go_at_call 56; refine (new_any _ _ _ h1 hl).mono ?_; rintro e w1 ⟨rfl, hc1⟩; simp only [World.size_alloc] at hc1) | (go_at_call 55; refine (l31Offer_any _ _ _ _ _ h1 hl hc1).mono ?_; rintro e w2 ⟨a, b, d, ha, hb, hd, rfl, hc2⟩; have b2 := hc2.bel; have p0 : w2.frozen? ⟨w.heap.size, 0, none⟩ = false := (b2.frozen (p := ⟨w.heap.size, 0, none⟩) (by simp)).trans (by simp [go_sem]); have r0 : w2.cell? ⟨w.heap.size, 0, none⟩ = some (.int .i64 0) := (b2.cell (p := ⟨w.heap.size, 0, none⟩) (by simp)).trans (by simp [go_sem]); have p1 : w2.frozen? ⟨w.heap.size, 1, none⟩ = false := (b2.frozen (p := ⟨w.heap.size, 1, none⟩) (by simp)).trans (by simp [go_sem]); have r1 : w2.cell? ⟨w.heap.size, 1, none⟩ = some (.int .i64 0) := (b2.cell (p := ⟨w.heap.size, 1, none⟩) (by simp)).trans (by simp [go_sem]); have p2 : w2.frozen? ⟨w.heap.size, 2, none⟩ = false := (b2.frozen (p := ⟨w.heap.size, 2, none⟩) (by simp)).trans (by simp [go_sem]); have r2 : w2.cell? ⟨w.heap.size, 2, none⟩ = some (.int .i64 0) := (b2.cell (p := ⟨w.heap.size, 2, none⟩) (by simp)).trans (by simp [go_sem])))
  exact bodyPost_ret (v := .agg #[.int .i64 a, .int .i64 b, .int .i64 d]) (by simp [results, Try.results46, go_sem, r0, r1, r2]) rfl ⟨_, _, _, ha, hb, hd, rfl, by (repeat' (first | (with_reducible exact Below.refl _ _) | (with_reducible refine bl_alloc ?_ _) | (with_reducible refine bl_drewN ?_ _) | (with_reducible refine bl_drew ?_) | (with_reducible assumption) | (with_reducible refine bl_to ?_ (by assumption)) | (with_reducible refine Below.trans ?_ (by assumption)) | (with_reducible refine Below.trans ?_ (Below.mono (by assumption) ?_)) | (with_reducible refine bl_set ?_ ?_ _) | (simp; done) | (simp; omega) | omega))⟩
end Go.Proofs.Ytggalfjaenoaeaa
