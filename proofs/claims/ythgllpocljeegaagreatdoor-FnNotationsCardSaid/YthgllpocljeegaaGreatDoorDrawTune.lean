/- The drawn tunes; lengths up to 2^20. -/
import Derived.Test.YthgllpocljeegaaGreatDoorDraw2
import Derived.Test.YthgllpocljeegaaGreatDoorSortN
namespace Go.Proofs.YthgllpocljeegaaGreatDoor
open Go.RowKit

/-- what is drawn of a note -/
def drN (x : Int × Int) : Prop := (0 ≤ x.1 ∧ x.1 ≤ 15) ∧ 10 ≤ x.2 ∧ x.2 ≤ 19
theorem tune_of {l : List (Int × Int)} (h : l.Pairwise (fun a b => ltN a b = true)) (hb : ∀ x ∈ l, noteB x = true) (hl : l.length ≤ 40) : tuneB l = true := by
  unfold tuneB
  rw [Bool.and_eq_true, decide_eq_true_eq]
  refine ⟨hl, okN_all fun k hk => stpB_iff.2 ⟨hb _ (gN_mem hk), ?_⟩⟩
  by_cases h0 : k = 0
  · exact .inl h0
  · refine .inr ?_
    rw [gN_eq hk, gN_eq (show k - 1 < l.length by omega)]
    exact List.pairwise_iff_getElem.1 h (k - 1) k (by omega) hk (by omega)
theorem drN_note {x : Int × Int} (h : drN x) : noteB x = true := by
  obtain ⟨a, b⟩ := h
  rw [noteB_iff]
  omega
theorem gr_bl {a w w' : World} {r : Option Nat} {B : Nat} (h : a.grownBy w r) (b : Below B w w') (hB : a.heap.size ≤ B) : a.grownBy w' r :=
  ⟨b.os.trans h.os, b.tape.trans h.tape, b.output.trans h.output, Nat.le_trans h.size b.size, fun i hi hn => (b.block i (by omega)).trans (h.block i hi hn)⟩
/-- a drawn tune, in a row of the call's own; the cursor's block alone has turned -/
def NewTune (w0 : World) (cb : Nat) (v : Value) (L : List Int) (w : World) (en : Ending) (w' : World) : Prop :=
  ∃ (l : List (Int × Int)) (A : Option Addr) (c : Nat), en = .returned (.slice A l.length c) ∧ l.length ≤ 11 ∧ tuneB l = true ∧ (∀ x ∈ l, drN x) ∧ w'.ownsRow w.heap.size 38 2 (.slice A l.length c) l.length (cN l) ∧ Cur w0 w' cb v L ∧ w.grownBy w' (some cb)
set_option maxHeartbeats 3200000 in
set_option maxRecDepth 100000 in
theorem l02Tune_any (w0 : World) (cb : Nat) (v : Value) (L : List Int) (w : World) (h0 : RdB w0 v L) (hl : L.length ≤ 1048576) (hc : Cur w0 w cb v L) :
    Calls Tryz.prog 14 #[.pointer (some ⟨cb, 0, none⟩)] w (NewTune w0 cb v L w) := by
  have hcl := hc.lt
  have own1 : (w.alloc (Obj.cells #[] 38)).ownsRow w.heap.size 38 2 (.slice (some ⟨w.heap.size, 0, none⟩) 0 0) ([] : List (Int × Int)).length (cN []) := own_new0 (Nat.le_refl _) rfl
  have hc1 : Cur w0 (w.alloc (Obj.cells #[] 38)) cb v L := hc.blk (bl_alloc (Below.refl _ _) _) hcl
  have ga : w.grownBy (w.alloc (Obj.cells #[] 38)) (some cb) := gr_bl (World.grownBy.refl _ _) (bl_alloc (Below.refl _ _) _) (Nat.le_refl _)
  go_enter Tryz.func14, Tryz.ntmps14
  go_wp2_with (go_at_call 27; refine (below_any _ _ _ _ _ _ h0 hl hc1).mono ?_; rintro e w1 ⟨n, ⟨n0, n1⟩, rfl, hc2, g1⟩)
  obtain ⟨N, rfl⟩ := Int.eq_ofNat_of_zero_le n0
  have hN : N ≤ 11 := by have := n1 (by omega); omega
  have own2 := own_draw own1 g1 hcl
  have gb := gr_tr ga g1
  clear hc hc1 own1 g1 n0 n1 ga
  go_loopw [3, 5] (fun a i wr => ∃ (k : Nat) (p : List (Int × Int)), p.length = k ∧ k ≤ N ∧ i = .int .i64 k ∧ (∀ x ∈ p, drN x) ∧ wr.ownsRow w.heap.size 38 2 a p.length (cN p) ∧ Cur w0 wr cb v L ∧ w.grownBy wr (some cb)) (fun _ i _ => N - (intOf i).toNat)
  case atStart => exact ⟨0, [], rfl, Nat.zero_le _, rfl, fun x h => by simp at h, own2, hc2, gb⟩
  case round =>
    clear own2 hc2 gb
    obtain ⟨k, p, hk, hkN, rfl, hp, ow, hc, gg⟩ := hrel
    obtain ⟨A, c, rfl⟩ := own_form ow
    have HK := Lib.hid hk
    have HP := Lib.hid hp
    have pl : p.length ≤ 11 := by omega
    have szr := gg.size
    clear hk hp
    by_cases hlt : k < N
    · have hlt' : (k : Int) < (N : Int) := by omega
      go_wp2_with fail
      refine (below_any _ _ _ _ _ _ h0 hl hc).mono ?_
      rintro e w2 ⟨x1, ⟨x1l, x1u⟩, rfl, hc3, g3⟩
      have x1u := x1u (by omega)
      have ow3 := own_draw ow g3 hcl
      have gg3 := gr_tr gg g3
      have s3 := g3.size
      clear ow hc g3 gg
      go_wp2_with fail
      refine (below_any _ _ _ _ _ _ h0 hl hc3).mono ?_
      rintro e w3 ⟨x2, ⟨x2l, x2u⟩, rfl, hc4, g4⟩
      have x2u := x2u (by omega)
      have ow4 := own_draw ow3 g4 hcl
      have gg4 := gr_tr gg3 g4
      have s4 := g4.size
      clear ow3 hc3 g4 gg3
      have dr : Hid (drN (x1, 10 + x2)) := by show drN _; unfold drN; simp only; omega
      go_wp2_with (at_builtin; refine wpList_app_N _ rfl _ _ rfl w.heap.size _ p rfl (ow4.alloc _) _ x1 (10 + x2) rfl ?_ ?_ (by omega) (by (first | omega | (simp; done) | (simp; omega))) ?_; rotate_left 2; intro v2 w5 ow6 bel6 gr6 at6)
      · have hc6 : Cur w0 w5 cb v L := (hc4.blk (bl_alloc (Below.refl _ _) _) hc4.lt).blk bel6 hcl
        have gg6 : w.grownBy w5 (some cb) := gr_bl (gr_bl gg4 (bl_alloc (Below.refl _ _) _) (by omega)) bel6 (Nat.le_refl _)
        go_roundw
        case rel => exact ⟨k + 1, p ++ [(x1, 10 + x2)], by simp [HK.out], by omega, by go_num, fun x hx => by rcases List.mem_append.1 hx with h | h; (· exact HP.out x h); (· rw [List.mem_singleton] at h; rw [h]; exact dr.out), ow6, hc6, gg6⟩
        case measure => simp [intOf]; omega
      all_goals (simp [go_sem]; done)
    · have hlt' : ¬ (k : Int) < (N : Int) := by omega
      have rd : RdN wr (.slice A p.length c) p := Rd.of_own ow
      go_wp2_with (go_at_call 28; refine (sortS_any _ p _ rd (by omega)).mono ?_; rintro e w6 ⟨A6, c6, rfl, ow6, b6⟩)
      go_ret
      have hm : ∀ x ∈ srtN p, drN x := fun x hx => HP.out x (srt_mem.1 hx)
      have hs := srtN_len p
      exact ⟨srtN p, A6, c6, rfl, by omega, tune_of (srt_pw ordN p) (fun x hx => drN_note (hm x hx)) (by omega), hm, own_lo ow6 szr, hc.blk b6 hc.lt, gr_bl gg b6 szr⟩
set_option maxHeartbeats 800000 in
theorem drawTune_any (v : Value) (L : List Int) (w : World) (h0 : RdB w v L) (hl : L.length ≤ 1048576) : Calls Tryz.prog 5 #[v] w fun en w' => ∃ (l : List (Int × Int)) (A : Option Addr) (c : Nat), en = .returned (.slice A l.length c) ∧ l.length ≤ 11 ∧ tuneB l = true ∧ (∀ x ∈ l, drN x) ∧ w'.ownsRow w.heap.size 38 2 (.slice A l.length c) l.length (cN l) ∧ Below w.heap.size w w' := by
  go_enter Tryz.func5, Tryz.ntmps5
  go_wp2_with (first | (go_at_call 15; refine (new_any _ _ _ h0 hl).mono ?_; rintro e w1 ⟨rfl, hc1⟩) | (go_at_call 14; refine (l02Tune_any _ _ _ _ _ h0 hl hc1).mono ?_; rintro e w2 ⟨p, A, c, rfl, pl, ht, hp, ow, hc2, g2⟩))
  go_ret
  exact ⟨p, A, c, rfl, pl, ht, hp, own_lo ow hc1.bel.size, hc2.bel⟩
end Go.Proofs.YthgllpocljeegaaGreatDoor
