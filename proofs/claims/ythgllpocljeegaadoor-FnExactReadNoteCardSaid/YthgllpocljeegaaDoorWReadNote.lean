/- FnExactReadNote: the law returns true at every input; no condition but what the library's variables hold. -/
import Derived.Test.YthgllpocljeegaaDoorReadNote
import Derived.Test.YthgllpocljeegaaDoorRowNote
namespace Go.Proofs.YthgllpocljeegaaDoor
open Go.RowKit Go.Sort

set_option maxHeartbeats 3200000 in
set_option maxRecDepth 100000 in
theorem readNote_law (s : ByteArray) (w : World) (hm : s.size ≤ maxLen) (env : Env w) : Calls Tryd.prog 5 #[.string s] w fun e w' => e = .returned (.bool true) ∧ Below w.heap.size w w' := by
  unfold maxLen at hm
  by_cases hs : s.size ≤ 1048576
  rotate_left
  · have hb : (1048576 : Int) < (s.size : Int) := by omega
    go_enter Tryd.func5, Tryd.ntmps5
    go_wp2
    go_ret
    exact ⟨rfl, Below.refl _ _⟩
  have cs := rnS_any s w hs
  have ci := fun W (h : Below w.heap.size w W) => rnI_any s W hs (env.bl h)
  generalize rnN s.data.toList = n at *
  generalize rnB s.data.toList = b at *
  have CI := Lib.hid ci
  clear ci env
  go_enter Tryd.func5, Tryd.ntmps5
  go_wp2_with fail
  refine cs.mono ?_
  rintro e w1 ⟨rfl, b1⟩
  have ba1 := bl_alloc b1 (.cells #[.int .i64 (n.1 : Int), .int .i64 (n.2 : Int)] 25)
  clear cs
  go_wp2_with fail
  refine (CI.out _ ba1).mono ?_
  rintro e w2 ⟨rfl, b2⟩
  have d0 : w2.cell? ⟨w1.heap.size, 0, none⟩ = some (.int .i64 (n.1 : Int)) := (b2.cell (p := ⟨w1.heap.size, 0, none⟩) (by simp)).trans (by simp [go_sem])
  have d1 : w2.cell? ⟨w1.heap.size, 1, none⟩ = some (.int .i64 (n.2 : Int)) := (b2.cell (p := ⟨w1.heap.size, 1, none⟩) (by simp)).trans (by simp [go_sem])
  have sz2 : w1.heap.size < w2.heap.size := by have := b2.size; simp at this; omega
  have bel := bl_to ba1 b2
  clear CI b1 ba1 b2
  go_wp2_with fail
  refine (eqNote_any _ _ _).mono ?_
  rintro e w3 ⟨rfl, b3⟩
  go_wp2
  go_ret
  exact ⟨rfl, bl_to (bl_alloc bel _) b3⟩
end Go.Proofs.YthgllpocljeegaaDoor
