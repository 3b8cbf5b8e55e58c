/- FnExactFindEntry: the law returns true at every input; no condition. -/
import Derived.Test.YtighmoedkknkoaaFind
namespace Go.Proofs.Ytighmoedkknkoaa
open Go.RowKit Go.Sort

set_option maxHeartbeats 3200000 in
set_option maxRecDepth 100000 in
theorem findEntry_law (v : Value) (l : List En) (s : ByteArray) (w : World) (hr : RdE w v l) (hs : ∀ j, j < l.length → (gE l j).1.size ≤ maxLen) (hm : s.size ≤ maxLen) : Calls Try.prog 4 #[v, .string s] w fun e w' => e = .returned (.bool true) ∧ Below w.heap.size w w' := by
  unfold maxLen at hm
  by_cases h0 : s.size ≤ 1048576
  rotate_left
  · have h0' : (1048576 : Int) < (s.size : Int) := by omega
    go_enter Try.func4, Try.ntmps4
    go_wp2
    go_ret
    exact ⟨rfl, Below.refl _ _⟩
  have h0' : ¬ (1048576 : Int) < (s.size : Int) := by omega
  have sz := szEntryS_any v l 1048576 w hr hs (by omega) (by omega)
  by_cases hl : l.length + szE l ≤ 1048576
  · rw [if_neg (by omega)] at sz
    go_enter Try.func4, Try.ntmps4
    go_wp2_with fail
    refine sz.mono ?_
    rintro e w1 ⟨rfl, b1⟩
    have z1 : ¬ (1048576 : Int) - (l.length + szE l : Nat) < 0 := by omega
    go_wp2_with fail
    refine (toEntryS_any v l _ (hr.bl b1) hl).mono ?_
    rintro e w2 ⟨A2, c2, rfl, o2, b2⟩
    have bel2 := bl_to b1 b2
    clear z1 b1 b2
    go_wp2_with fail
    refine (findS_any _ s l _ o2.rd hl).mono ?_
    rintro e w3 ⟨rfl, b3⟩
    have bel3 := bl_to bel2 b3
    clear o2 bel2 b3
    go_wp2_with fail
    refine (toEntryS_any v l _ (hr.bl bel3) hl).mono ?_
    rintro e w4 ⟨A4, c4, rfl, o4, b4⟩
    have bel4 := bl_to bel3 b4
    clear bel3 b4
    go_wp2_with fail
    refine (findI_any _ s l _ o4.rd hl).mono ?_
    rintro e w5 ⟨rfl, b5⟩
    have bel5 := bl_to bel4 b5
    have o5 := o4.bl b5
    clear bel4 b5 o4
    go_wp2_with fail
    refine (toEntryS_any v l _ (hr.bl bel5) hl).mono ?_
    rintro e w6 ⟨A6, c6, rfl, o6, b6⟩
    have bel6 := bl_to bel5 b6
    have o7 := o5.bl b6
    clear bel5 b6 o5
    go_wp2_with fail
    refine (eqEntryS_any _ _ l _ o7.rd o6.rd hl).mono ?_
    rintro e w7 ⟨rfl, b7⟩
    have bel7 := bl_to bel6 b7
    clear bel6 b7 o7 o6
    go_wp2
    go_ret
    exact ⟨rfl, bel7⟩
  · rw [if_pos (by omega)] at sz
    go_enter Try.func4, Try.ntmps4
    go_wp2_with fail
    refine sz.mono ?_
    rintro e w1 ⟨rfl, b1⟩
    go_wp2
    go_ret
    exact ⟨rfl, b1⟩
end Go.Proofs.Ytighmoedkknkoaa
