/- FnExactSameEntries: the law returns true at every input; no condition. -/
import Derived.Test.YtighmoedkknkoaaSameEnI
import Derived.Test.YtighmoedkknkoaaMarkEntry
namespace Go.Proofs.Ytighmoedkknkoaa
open Go.RowKit Go.Sort

set_option maxHeartbeats 12800000 in
set_option maxRecDepth 100000 in
theorem sameEntries_law (v : Value) (l : List En) (w : World) (hr : RdE w v l) (hs : ∀ j, j < l.length → (gE l j).1.size ≤ maxLen) : Calls Try.prog 7 #[v] w fun e w' => e = .returned (.bool true) ∧ Below w.heap.size w w' := by
  have sz := szEntryS_any v l 1048576 w hr hs (by omega) (by omega)
  by_cases hl : l.length + szE l ≤ 1048576
  rotate_left
  · rw [if_pos (by omega)] at sz
    go_enter Try.func7, Try.ntmps7
    go_wp2_with fail
    refine sz.mono ?_
    rintro e w1 ⟨rfl, b1⟩
    go_wp2
    go_ret
    exact ⟨rfl, b1⟩
  rw [if_neg (by omega)] at sz
  have hln : ¬ (1048576 : Int) - (l.length + szE l : Nat) < 0 := by omega
  obtain ⟨Z, hZ⟩ : ∃ Z, (1048576 : Int) - (l.length + szE l : Nat) = Z := ⟨_, rfl⟩
  rw [hZ] at sz hln
  have hLs := sameF_len l
  have cs := fun W v h => samesS_any v l W h hl
  have ci := fun W v h => samesI_any v l W h hl
  have mx := fun W lo hi v (h : OwnE lo hi W v l) (hh : hi ≤ W.heap.size) => markEntryS_any lo hi v l 1 W h (by omega) hh (by omega) (by omega)
  generalize sameF l = L at *
  have mg := fun W lo hi v (h : OwnP lo hi W v L) => markSS_any lo hi v L 1 W h (by omega) (by omega) (by omega)
  have hg := fun W lo hi v (h : OwnP lo hi W v (mkP 1 L.length)) => heldSS_any lo hi v L.length 1 W h (by omega) (by omega) (by omega)
  generalize 1 + cntE l = cx at *
  generalize 1 + 2 * L.length = cg at *
  have hll : l.length + szE l ≤ 1048577 := by omega
  have hLL : L.length ≤ 1048576 := by omega
  have CS := Lib.hid cs
  have CI := Lib.hid ci
  have MX := Lib.hid mx
  have MG := Lib.hid mg
  have HG := Lib.hid hg
  clear cs ci mx mg hg hZ hLs
  go_enter Try.func7, Try.ntmps7
  go_wp2_with fail
  refine (sz).mono ?_
  rintro e w1 ⟨rfl, b1⟩
  have s1 : w.heap.size ≤ w1.heap.size := b1.size
  have bel : Below w.heap.size w w1 := b1
  clear b1
  go_wp2_with fail
  refine (toEntryS_any v l _ (hr.bl bel) hl).mono ?_
  rintro e w2 ⟨A_t, c_t, rfl, o_t, b2⟩
  have s2 : w1.heap.size ≤ w2.heap.size := b2.size
  replace bel : Below w.heap.size w w2 := bl_to bel b2
  clear b2
  go_wp2_with fail
  refine (CS.out _ _ o_t.rd).mono ?_
  rintro e w3 ⟨A_s, c_s, rfl, o_s, b3⟩
  have s3 : w2.heap.size ≤ w3.heap.size := b3.size
  replace o_t := o_t.bl b3
  replace bel : Below w.heap.size w w3 := bl_to bel b3
  clear b3
  go_wp2_with fail
  refine (toEntryS_any v l _ (hr.bl bel) hl).mono ?_
  rintro e w4 ⟨A_x, c_x, rfl, o_x, b4⟩
  have s4 : w3.heap.size ≤ w4.heap.size := b4.size
  replace o_s := o_s.bl b4
  replace bel : Below w.heap.size w w4 := bl_to bel b4
  clear b4
  go_wp2_with fail
  refine (CI.out _ _ o_x.rd).mono ?_
  rintro e w5 ⟨A_g, c_g, rfl, o_g, b5⟩
  have s5 : w4.heap.size ≤ w5.heap.size := b5.size
  replace o_s := o_s.bl b5
  replace o_x := o_x.bl b5
  replace bel : Below w.heap.size w w5 := bl_to bel b5
  clear b5
  go_wp2_with fail
  refine (eqSS_any _ _ _ _ _ _ L _ o_g o_s hLL).mono ?_
  rintro e w6 ⟨rfl, b6⟩
  have s6 : w5.heap.size ≤ w6.heap.size := b6.size
  replace o_s := o_s.bl b6
  replace o_x := o_x.bl b6
  replace o_g := o_g.bl b6
  replace bel : Below w.heap.size w w6 := bl_to bel b6
  clear b6
  go_wp2_with fail
  refine (toEntryS_any v l _ (hr.bl bel) hl).mono ?_
  rintro e w7 ⟨A_y, c_y, rfl, o_y, b7⟩
  have s7 : w6.heap.size ≤ w7.heap.size := b7.size
  replace o_s := o_s.bl b7
  replace o_x := o_x.bl b7
  replace o_g := o_g.bl b7
  replace bel : Below w.heap.size w w7 := bl_to bel b7
  clear b7
  go_wp2_with fail
  refine (eqEntryS_any _ _ l _ o_x.rd o_y.rd hll).mono ?_
  rintro e w8 ⟨rfl, b8⟩
  have s8 : w7.heap.size ≤ w8.heap.size := b8.size
  replace o_s := o_s.bl b8
  replace o_x := o_x.bl b8
  replace o_g := o_g.bl b8
  replace o_y := o_y.bl b8
  replace bel : Below w.heap.size w w8 := bl_to bel b8
  clear b8
  go_wp2_with fail
  refine (MX.out _ _ _ _ o_x (by omega)).mono ?_
  rintro e w9 ⟨rfl, om, p9⟩
  have s9 : w8.heap.size ≤ w9.heap.size := p9.size
  replace o_s := o_s.apart p9 (by omega)
  replace o_g := o_g.apart p9 (by omega)
  replace o_x := om
  replace bel : Below w.heap.size w w9 := bl_apart bel p9 (by omega)
  clear p9 om
  go_wp2_with fail
  refine (eqSS_any _ _ _ _ _ _ L _ o_g o_s hLL).mono ?_
  rintro e w10 ⟨rfl, b10⟩
  have s10 : w9.heap.size ≤ w10.heap.size := b10.size
  replace o_s := o_s.bl b10
  replace o_g := o_g.bl b10
  replace bel : Below w.heap.size w w10 := bl_to bel b10
  clear b10
  go_wp2_with fail
  refine (MG.out _ _ _ _ o_g).mono ?_
  rintro e w11 ⟨rfl, om, p11⟩
  have s11 : w10.heap.size ≤ w11.heap.size := p11.size
  replace o_s := o_s.apart p11 (by omega)
  replace o_g := om
  replace bel : Below w.heap.size w w11 := bl_apart bel p11 (by omega)
  clear p11 om
  go_wp2_with fail
  refine (HG.out _ _ _ _ o_g).mono ?_
  rintro e w12 ⟨rfl, b12⟩
  have s12 : w11.heap.size ≤ w12.heap.size := b12.size
  replace o_s := o_s.bl b12
  replace o_g := o_g.bl b12
  replace bel : Below w.heap.size w w12 := bl_to bel b12
  clear b12
  go_wp2_with fail
  refine (toEntryS_any v l _ (hr.bl bel) hl).mono ?_
  rintro e w13 ⟨A_z, c_z, rfl, o_z, b13⟩
  have s13 : w12.heap.size ≤ w13.heap.size := b13.size
  replace o_s := o_s.bl b13
  replace o_g := o_g.bl b13
  replace bel : Below w.heap.size w w13 := bl_to bel b13
  clear b13
  go_wp2_with fail
  refine (CI.out _ _ o_z.rd).mono ?_
  rintro e w14 ⟨A_h, c_h, rfl, o_h, b14⟩
  have s14 : w13.heap.size ≤ w14.heap.size := b14.size
  replace o_s := o_s.bl b14
  replace o_g := o_g.bl b14
  replace o_z := o_z.bl b14
  replace bel : Below w.heap.size w w14 := bl_to bel b14
  clear b14
  go_wp2_with fail
  refine (eqSS_any _ _ _ _ _ _ L _ o_h o_s hLL).mono ?_
  rintro e w15 ⟨rfl, b15⟩
  have s15 : w14.heap.size ≤ w15.heap.size := b15.size
  replace o_s := o_s.bl b15
  replace o_g := o_g.bl b15
  replace o_h := o_h.bl b15
  replace bel : Below w.heap.size w w15 := bl_to bel b15
  clear b15
  go_wp2_with fail
  refine (HG.out _ _ _ _ o_g).mono ?_
  rintro e w16 ⟨rfl, b16⟩
  have s16 : w15.heap.size ≤ w16.heap.size := b16.size
  replace o_s := o_s.bl b16
  replace o_g := o_g.bl b16
  replace o_h := o_h.bl b16
  replace bel : Below w.heap.size w w16 := bl_to bel b16
  clear b16
  go_wp2
  go_ret
  exact ⟨rfl, bel⟩
end Go.Proofs.Ytighmoedkknkoaa
