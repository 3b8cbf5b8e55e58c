/- FnExactReadTune: the law returns true at every input; no condition but what the library's variables hold. -/
import Derived.Test.YthgllpocljeegaaDoorReadTuneI
import Derived.Test.YthgllpocljeegaaDoorMarkNote
namespace Go.Proofs.YthgllpocljeegaaDoor
open Go.RowKit Go.Sort

theorem rtL_len (L : List UInt8) : (rtL L).length ≤ 40 := by
  unfold rtL
  split
  · simp
  · split
    · rename_i h0 h
      rw [rtB, if_neg h0, Bool.and_eq_true] at h
      exact (tuneB_iff h.2).1
    · simp
set_option maxHeartbeats 3200000 in
set_option maxRecDepth 100000 in
theorem readTune_law (s : ByteArray) (w : World) (hm : s.size ≤ maxLen) (env : Env w) : Calls Tryd.prog 6 #[.string s] w fun e w' => e = .returned (.bool true) ∧ Below w.heap.size w w' := by
  unfold maxLen at hm
  by_cases hs : s.size ≤ 1048576
  rotate_left
  · have hb : (1048576 : Int) < (s.size : Int) := by omega
    go_enter Tryd.func6, Tryd.ntmps6
    go_wp2
    go_ret
    exact ⟨rfl, Below.refl _ _⟩
  have cs := rtS_any s w hs
  have ci := fun W (h : Below w.heap.size w W) => rtI_any s W hs (env.bl h)
  have hz := rtL_len s.data.toList
  generalize rtL s.data.toList = Z at *
  generalize rtB s.data.toList = b at *
  have CI := Lib.hid ci
  have g1 : ¬ (1 + 2 * (Z.length : Int)) < 0 := by omega
  have HZ : Z.length ≤ 1048576 := by omega
  clear ci env hz
  go_enter Tryd.func6, Tryd.ntmps6
  go_wp2_with fail
  refine cs.mono ?_
  rintro e w1 ⟨A3, c3, rfl, ow3, b1⟩
  go_wp2_with fail
  refine (CI.out _ b1).mono ?_
  rintro e w2 ⟨A5, c5, rfl, ow5, b2⟩
  have hap := own_ne ow3 ow5
  replace ow3 := own_bl ow3 b2
  have bel := bl_to b1 b2
  have s1 := b1.size
  clear cs b1 b2
  go_wp2_with fail
  refine (eqNoteS_any _ _ Z _ (Rd.of_own ow5) (Rd.of_own ow3) HZ).mono ?_
  rintro e w3 ⟨rfl, b3⟩
  replace ow3 := own_bl ow3 b3
  replace ow5 := own_bl ow5 b3
  replace bel := bl_to bel b3
  clear b3
  go_wp2_with fail
  refine (markNoteS_any w1.heap.size _ Z 1 _ ow5 HZ (by omega) (by omega)).mono ?_
  rintro e w4 ⟨rfl, ow6, g4⟩
  replace ow3 := ow3.kept g4 hap
  replace bel : Below w.heap.size w w4 := bl_grown bel g4 (fun k hk => by have := (ow5.lt k hk).1; omega)
  clear g4 ow5 hap
  go_wp2_with fail
  refine (heldNoteS_any _ Z.length 1 _ (Rd.of_own ow6) HZ (by omega) (by omega)).mono ?_
  rintro e w5 ⟨rfl, rfl⟩
  go_wp2_with fail
  refine (CI.out _ bel).mono ?_
  rintro e w6 ⟨A9, c9, rfl, ow9, b6⟩
  replace ow3 := own_bl ow3 b6
  replace ow6 := own_bl ow6 b6
  replace bel := bl_to bel b6
  clear b6 CI
  go_wp2_with fail
  refine (eqNoteS_any _ _ Z _ (Rd.of_own ow9) (Rd.of_own ow3) HZ).mono ?_
  rintro e w7 ⟨rfl, b7⟩
  replace ow6 := own_bl ow6 b7
  replace bel := bl_to bel b7
  clear b7 ow9 ow3
  go_wp2_with fail
  refine (heldNoteS_any _ Z.length 1 _ (Rd.of_own ow6) HZ (by omega) (by omega)).mono ?_
  rintro e w8 ⟨rfl, rfl⟩
  go_wp2
  go_ret
  exact ⟨rfl, bel⟩
end Go.Proofs.YthgllpocljeegaaDoor
