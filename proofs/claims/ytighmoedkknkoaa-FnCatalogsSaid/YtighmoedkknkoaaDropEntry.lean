/- DropEntry of the program and of the reference return the same; sizes up to 2^20. -/
import Derived.Test.YtighmoedkknkoaaDropEntry0
namespace Go.Proofs.Ytighmoedkknkoaa
open Go.RowKit

set_option maxHeartbeats 3200000 in
set_option maxRecDepth 100000 in
theorem dropI_any (v : Value) (s : ByteArray) (l : List En) (w : World) (h1 : RdE w v l) (hl : l.length + szE l ≤ 1048576) :
    Calls Try.prog 17 #[v, .string s] w (NewEB (drpL l s) (drpQ l s) w) := by
  obtain ⟨A1, c1, rfl, _, hm⟩ := h1.form
  have hf := fndF_bd l s
  have cf := findI_any _ s l w h1 hl
  cases hq : drpQ l s
  · have hneg : fndF l s < 0 := by simpa [drpQ] using hq
    have hL : drpL l s = l := by simp [drpL, hq]
    rw [hL]
    generalize fndF l s = f at *
    clear hL hq
    go_enter Try.func17, Try.ntmps17
    go_wp2_with fail
    refine cf.mono ?_
    rintro e w1 ⟨rfl, b1⟩
    go_wp2_with fail
    refine (copyCatI_any _ l _ (h1.bl b1) (by omega)).mono ?_
    rintro e w2 ⟨A2, c2, rfl, o2, b2⟩
    go_wp2
    go_ret2
    exact ⟨_, _, rfl, o2.mono b1.size (Nat.le_refl _), bl_to b1 b2⟩
  · have hpos : 0 ≤ fndF l s := by simpa [drpQ] using hq
    obtain ⟨k, hk⟩ := Int.eq_ofNat_of_zero_le hpos
    obtain ⟨L, hL⟩ : ∃ L, outL l k = L := ⟨_, rfl⟩
    have hLL : drpL l s = L := by rw [drpL, hq, if_pos rfl, hk, ← hL]; rfl
    rw [hLL]
    rw [hk] at cf hf
    have hkl : k < l.length := by omega
    have k0 : (0 : Int) ≤ (k : Int) := by omega
    have k1 : ¬ (k : Int) < 0 := by omega
    have k2 : (k : Int) + 1 ≤ (l.length : Int) := by omega
    have kt : ((k : Int) + 1).toNat = k + 1 := by omega
    have HL := Lib.hid hL
    clear hL hLL hq hpos hk
    go_enter Try.func17, Try.ntmps17
    go_wp2_with fail
    refine cf.mono ?_
    rintro e w1 ⟨rfl, b1⟩
    go_wp2_with fail
    refine (copyCatI_any _ l _ (h1.bl b1) (by omega)).mono ?_
    rintro e w2 ⟨A2, c2, rfl, o2, b2⟩
    obtain ⟨g, c, he, hc1, hc2⟩ := o2.some (by omega)
    simp only [Value.slice.injEq, true_and] at he
    obtain ⟨rfl, rfl⟩ := he
    have bel := bl_to b1 b2
    have hs1 := b1.size
    have hs2 := b2.size
    have hcm := hc2
    unfold maxLen at hcm
    clear cf h1 b1 b2
    have kw : IntKind.i64.wrap ((k : Int) + 1) = (k : Int) + 1 := IntWalk.i64_in _ (by omega)
    have belw := bel.size
    obtain ⟨X, hr2, hX⟩ := run_sl_from g 0 l.length c2 (k + 1) (by omega) hc1
    have hr1 := run_sl_to g 0 l.length c2 k (by omega)
    rw [show ((k + 1 : Nat) : Int) = (k : Int) + 1 by omega] at hr2
    have HX : Hid (k + 1 < l.length → X = (k + 1) * 2) := fun h => by have := hX h; omega
    obtain ⟨d, hd⟩ : ∃ d, l.length - (k + 1) = d := ⟨_, rfl⟩
    obtain ⟨c', hc'⟩ : ∃ d, c2 - (k + 1) = d := ⟨_, rfl⟩
    rw [hd, hc'] at hr2
    have HD := Lib.hid hd
    have hcc : d ≤ c' := by omega
    have hcc2 : c' ≤ maxLen := by unfold maxLen; omega
    have o2d : OwnE w1.heap.size w2.heap.size w2.drew (.slice (some ⟨g, 0, none⟩) l.length c2) l := o2.bl (bl_drew (Below.refl _ _))
    clear hX hd hc'
    go_upto_region 5 with (fail)
    go_region_law (refine step_is_append (.tmp 18) (.tmp 22) _ rfl ?_; refine step_app_out _ rfl _ _ rfl w1.heap.size w2.heap.size g l.length c2 c' k X l o2d rfl hkl (by rfl) (by rw [HD.out]; rfl) HX.out (by rw [HD.out]; exact hcc) hcc2 (by omega) (by exact hs2) L HL.out ?_; intro A4 c4 w4 o4 b4)
    all_goals
      have bel4 : Below w.heap.size w w4 := Below.trans (b := w2.drew) (by (repeat' (first | (with_reducible exact Below.refl _ _) | (with_reducible refine bl_alloc ?_ _) | (with_reducible refine bl_drewN ?_ _) | (with_reducible refine bl_drew ?_) | (with_reducible assumption) | (with_reducible refine bl_to ?_ (by assumption)) | (with_reducible refine Below.trans ?_ (by assumption)) | (with_reducible refine Below.trans ?_ (Below.mono (by assumption) ?_)) | (with_reducible refine bl_set ?_ ?_ _) | (simp; done) | (simp; omega) | omega))) (b4.mono hs1)
      go_wp2
      go_ret2
      exact ⟨_, _, rfl, o4.mono hs1 (Nat.le_refl _), bel4⟩

set_option maxHeartbeats 3200000 in
set_option maxRecDepth 100000 in
theorem dropS_any (v : Value) (s : ByteArray) (l : List En) (w : World) (h1 : RdE w v l) (hl : l.length + szE l ≤ 1048576) :
    Calls Try.prog 16 #[v, .string s] w (NewEB (drpL l s) (drpQ l s) w) := by
  obtain ⟨A1, c1, rfl, _, hm⟩ := h1.form
  have hf := fndF_bd l s
  have cf := findS_any _ s l w h1 hl
  cases hq : drpQ l s
  · have hneg : fndF l s < 0 := by simpa [drpQ] using hq
    have hL : drpL l s = l := by simp [drpL, hq]
    rw [hL]
    generalize fndF l s = f at *
    clear hL hq
    go_enter Try.func16, Try.ntmps16
    go_wp2_with fail
    refine cf.mono ?_
    rintro e w1 ⟨rfl, b1⟩
    go_wp2_with fail
    refine (copyCatS_any _ l _ (h1.bl b1) (by omega)).mono ?_
    rintro e w2 ⟨A2, c2, rfl, o2, b2⟩
    go_wp2
    go_ret2
    exact ⟨_, _, rfl, o2.mono b1.size (Nat.le_refl _), bl_to b1 b2⟩
  · have hpos : 0 ≤ fndF l s := by simpa [drpQ] using hq
    obtain ⟨k, hk⟩ := Int.eq_ofNat_of_zero_le hpos
    obtain ⟨L, hL⟩ : ∃ L, outL l k = L := ⟨_, rfl⟩
    have hLL : drpL l s = L := by rw [drpL, hq, if_pos rfl, hk, ← hL]; rfl
    rw [hLL]
    rw [hk] at cf hf
    have hkl : k < l.length := by omega
    have k0 : (0 : Int) ≤ (k : Int) := by omega
    have k1 : ¬ (k : Int) < 0 := by omega
    have k2 : (k : Int) + 1 ≤ (l.length : Int) := by omega
    have kt : ((k : Int) + 1).toNat = k + 1 := by omega
    have HL := Lib.hid hL
    clear hL hLL hq hpos hk
    go_enter Try.func16, Try.ntmps16
    go_wp2_with fail
    refine cf.mono ?_
    rintro e w1 ⟨rfl, b1⟩
    go_wp2_with fail
    refine (copyCatS_any _ l _ (h1.bl b1) (by omega)).mono ?_
    rintro e w2 ⟨A2, c2, rfl, o2, b2⟩
    obtain ⟨g, c, he, hc1, hc2⟩ := o2.some (by omega)
    simp only [Value.slice.injEq, true_and] at he
    obtain ⟨rfl, rfl⟩ := he
    have bel := bl_to b1 b2
    have hs1 := b1.size
    have hs2 := b2.size
    have hcm := hc2
    unfold maxLen at hcm
    clear cf h1 b1 b2
    have kw : IntKind.i64.wrap ((k : Int) + 1) = (k : Int) + 1 := IntWalk.i64_in _ (by omega)
    have belw := bel.size
    obtain ⟨X, hr2, hX⟩ := run_sl_from g 0 l.length c2 (k + 1) (by omega) hc1
    have hr1 := run_sl_to g 0 l.length c2 k (by omega)
    rw [show ((k + 1 : Nat) : Int) = (k : Int) + 1 by omega] at hr2
    have HX : Hid (k + 1 < l.length → X = (k + 1) * 2) := fun h => by have := hX h; omega
    obtain ⟨d, hd⟩ : ∃ d, l.length - (k + 1) = d := ⟨_, rfl⟩
    obtain ⟨c', hc'⟩ : ∃ d, c2 - (k + 1) = d := ⟨_, rfl⟩
    rw [hd, hc'] at hr2
    have HD := Lib.hid hd
    have hcc : d ≤ c' := by omega
    have hcc2 : c' ≤ maxLen := by unfold maxLen; omega
    have o2d : OwnE w1.heap.size w2.heap.size w2.drew (.slice (some ⟨g, 0, none⟩) l.length c2) l := o2.bl (bl_drew (Below.refl _ _))
    clear hX hd hc'
    go_upto_region 5 with (fail)
    go_region_law (refine step_is_append (.tmp 18) (.tmp 22) _ rfl ?_; refine step_app_out _ rfl _ _ rfl w1.heap.size w2.heap.size g l.length c2 c' k X l o2d rfl hkl (by rfl) (by rw [HD.out]; rfl) HX.out (by rw [HD.out]; exact hcc) hcc2 (by omega) (by exact hs2) L HL.out ?_; intro A4 c4 w4 o4 b4)
    all_goals
      have bel4 : Below w.heap.size w w4 := Below.trans (b := w2.drew) (by (repeat' (first | (with_reducible exact Below.refl _ _) | (with_reducible refine bl_alloc ?_ _) | (with_reducible refine bl_drewN ?_ _) | (with_reducible refine bl_drew ?_) | (with_reducible assumption) | (with_reducible refine bl_to ?_ (by assumption)) | (with_reducible refine Below.trans ?_ (by assumption)) | (with_reducible refine Below.trans ?_ (Below.mono (by assumption) ?_)) | (with_reducible refine bl_set ?_ ?_ _) | (simp; done) | (simp; omega) | omega))) (b4.mono hs1)
      go_wp2
      go_ret2
      exact ⟨_, _, rfl, o4.mono hs1 (Nat.le_refl _), bel4⟩

end Go.Proofs.Ytighmoedkknkoaa
