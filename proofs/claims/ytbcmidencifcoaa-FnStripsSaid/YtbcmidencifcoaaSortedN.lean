/- slices.SortFunc and slices.Compact at notes, 'sorted' of the program; lengths up to 2^20. -/
import Derived.Test.YtbcmidencifcoaaSortRow
import Derived.Test.YtbcmidencifcoaaSortN
import Derived.Test.YtbcmidencifcoaaSortShelf
import Derived.Shelf.SlSortCmp.NoneTotal
namespace Go.Proofs.Ytbcmidencifcoaa
open Go.RowKit Go.Shelf Go.Lib
open Go.Sort (alloc_eq_grow grow flatK get_flatK size_flatK HoldsK onCells putCells ahead grow_grow)

def encN (x : Int × Int) : List Value := [.int .i64 x.1, .int .i64 x.2]
theorem cN_enc (l : List (Int × Int)) : cN l = l.flatMap encN := rfl
set_option maxHeartbeats 800000 in
theorem compareG_any (x y : Int × Int) (W : World) : Calls Try.prog 71 #[.agg #[.int .i64 x.1, .int .i64 x.2], .agg #[.int .i64 y.1, .int .i64 y.2]] W fun e w' => e = .returned (.int .i64 (cmpN x y)) ∧ ∃ q os', w' = Go.Sort.grow (W.drewN q) os' := by
  obtain ⟨a0, a1⟩ := x
  obtain ⟨b0, b1⟩ := y
  by_cases h1 : a0 < b0
  · go_enter Try.func71, Try.ntmps71
    go_wp2
    go_ret
    exact ⟨ret_int (by simp [cmpN, ltN, h1]), 0, _, by rw [alloc_eq_grow, alloc_eq_grow, grow_grow]; rfl⟩
  by_cases h2 : a0 = b0
  · subst h2
    by_cases h3 : a1 < b1
    · go_enter Try.func71, Try.ntmps71
      go_wp2
      go_ret
      exact ⟨ret_int (by simp [cmpN, ltN, h3]), 0, _, by rw [alloc_eq_grow, alloc_eq_grow, grow_grow]; rfl⟩
    by_cases h4 : a1 = b1
    · subst h4
      go_enter Try.func71, Try.ntmps71
      go_wp2
      go_ret
      exact ⟨ret_int (by simp [cmpN, ltN]), 0, _, by rw [alloc_eq_grow, alloc_eq_grow, grow_grow]; rfl⟩
    · go_enter Try.func71, Try.ntmps71
      go_wp2
      go_ret
      exact ⟨ret_int (by simp [cmpN, ltN, h3, h4]), 0, _, by rw [alloc_eq_grow, alloc_eq_grow, grow_grow]; rfl⟩
  · go_enter Try.func71, Try.ntmps71
    go_wp2
    go_ret
    exact ⟨ret_int (by simp [cmpN, ltN, h1, h2]), 0, _, by rw [alloc_eq_grow, alloc_eq_grow, grow_grow]; rfl⟩
theorem ltOf_cmpN (x y : Int × Int) : ltOf cmpN x y = ltN x y := by
  unfold ltOf
  cases h : ltN x y with
  | true => rw [cmpN_yes h]; rfl
  | false => have := cmpN_no h; simp; omega
theorem ltOf_fun : (ltOf cmpN : Int × Int → Int × Int → Bool) = ltN := funext fun x => funext fun y => ltOf_cmpN x y
theorem swoN : Go.Sort.SWO (ltOf cmpN) where
  irrefl x := by rw [ltOf_cmpN]; exact ordN.irr x
  trans x y z h1 h2 := by rw [ltOf_cmpN] at *; exact ordN.trans _ _ _ h1 h2
  ntrans x y z h1 h2 := by
    rw [ltOf_cmpN] at *
    cases h : ltN x z with
    | false => rfl
    | true =>
      by_cases e : x = y
      · subst e; rw [h] at h2; cases h2
      · have := ordN.trans _ _ _ (ordN.tot x y h1 e) h
        rw [this] at h2; cases h2
theorem totN (x y : Int × Int) (h1 : ltOf cmpN x y = false) (h2 : ltOf cmpN y x = false) : x = y := by
  rw [ltOf_cmpN] at h1 h2
  by_cases e : x = y
  · exact e
  · rw [ordN.tot x y h1 e] at h2; cases h2
theorem merge_srt {l : List (Int × Int)} (h : l.Nodup) : (l.mergeSort fun x y => !ltOf cmpN y x) = srtN l := by
  have hp := List.mergeSort_perm l (fun x y => !ltOf cmpN y x)
  refine (srt_eq ordN ?_ fun x => hp.mem_iff).symm
  have hs := List.pairwise_mergeSort (le := fun x y => !ltOf cmpN y x) (fun a b c h1 h2 => by
    simp only [ltOf_cmpN, Bool.not_eq_true'] at *
    have := swoN.ntrans c b a
    simp only [ltOf_cmpN] at this
    exact this h2 h1) (fun a b => by
    simp only [ltOf_cmpN]
    cases h1 : ltN b a with
    | false => rfl
    | true =>
      cases h2 : ltN a b with
      | false => rfl
      | true => have := ordN.trans _ _ _ h1 h2; rw [ordN.irr] at this; cases this) l
  have hn : (l.mergeSort fun x y => !ltOf cmpN y x).Nodup := hp.nodup_iff.2 h
  refine (List.Pairwise.and hs hn).imp fun {a b} hab => ?_
  simp only [ltOf_cmpN, Bool.not_eq_true'] at hab
  exact ordN.tot b a hab.1 (fun e => hab.2 e.symm)

set_option maxHeartbeats 1600000 in
theorem compactN_any (v : Value) (l : List (Int × Int)) (w : World) (h1 : RdN w v l) (hl : l.length ≤ 1048576) (hp : l.Pairwise fun a b => ltN a b = true) :
    Calls Try.prog 75 #[v] w fun e w' => e = .returned v ∧ Below w.heap.size w w' := by
  obtain ⟨A1, c1, rfl, _, hm⟩ := h1.form
  unfold maxLen at hm
  by_cases h2 : (l.length : Int) < 2
  · go_enter Try.func75, Try.ntmps75
    go_wp2
    go_ret
    exact ⟨rfl, Below.refl _ _⟩
  have HP := Lib.hid hp
  clear hp
  go_enter Try.func75, Try.ntmps75
  go_wp2
  go_loopw [3] (fun i wr => ∃ k q : Nat, k + 1 ≤ l.length ∧ i = .int .i64 ((k : Int) + 1) ∧ wr = w.drewN q) (fun i _ => l.length - (intOf i).toNat)
  case atStart => exact ⟨0, 0, by omega, rfl, rfl⟩
  case round =>
    obtain ⟨k, q, hk, rfl, rfl⟩ := hrel
    by_cases hlt : k + 1 < l.length
    · have hlt' : (k : Int) + 1 < (l.length : Int) := by omega
      obtain ⟨b, o, rfl, hb, e0, e1⟩ := RdN.at_ h1 (show k < l.length by omega)
      obtain ⟨b', o', hbo, _, d0, d1⟩ := RdN.at_ h1 hlt
      obtain ⟨rfl, rfl⟩ : b = b' ∧ o = o' := by simpa using hbo
      have hlt2 : ltN (gN l k) (gN l (k + 1)) = true := by
        rw [gN_eq hlt, gN_eq (show k < l.length by omega)]
        exact List.pairwise_iff_getElem.1 HP.out k (k + 1) (by omega) hlt (by omega)
      have kw : IntKind.i64.wrap (k : Int) = (k : Int) := IntWalk.i64_in _ (by omega)
      have k1 : ((k : Int) + 1).toNat = k + 1 := by omega
      have k2 : (0 : Int) ≤ (k : Int) + 1 := by omega
      have k3 : (k : Int) < (l.length : Int) := by omega
      have e0 : (w.drewN q).cell? ⟨b, o + k * 2, none⟩ = _ := e0
      have e1 : (w.drewN q).cell? ⟨b, o + k * 2 + 1, none⟩ = _ := e1
      have d0 : (w.drewN q).cell? ⟨b, o + (k + 1) * 2, none⟩ = _ := d0
      have d1 : (w.drewN q).cell? ⟨b, o + (k + 1) * 2 + 1, none⟩ = _ := d1
      generalize hwz : w.drewN q = wz at *
      have HWZ := Lib.hid hwz
      clear hwz hbo h1
      by_cases f1 : (gN l (k + 1)).1 = (gN l k).1
      have f2 : ¬ (gN l (k + 1)).2 = (gN l k).2 := fun h => by rw [ltN_iff] at hlt2; omega
      all_goals
        clear hlt2
        go_wp2
        go_big_quiet (fail)
        go_wp2
        go_roundw
        case rel => exact ⟨k + 1, _, by omega, by go_num, by rw [← HWZ.out, World.drewN_drewN]⟩
        case measure => simp [intOf]; omega
    · have hlt' : ¬ (k : Int) + 1 < (l.length : Int) := by omega
      go_wp2
      go_ret
      exact ⟨rfl, bl_drewN (Below.refl _ _) _⟩

set_option maxHeartbeats 1600000 in
theorem sortedI_any (v : Value) (l : List (Int × Int)) (w : World) (h1 : RdN w v l) (hl : l.length ≤ 1048576) (hd : l.Nodup) :
    Calls Try.prog 68 #[v] w (NewRow 62 2 (srtN l).length (cN (srtN l)) w) := by
  have hms := merge_srt hd
  have hlen : (srtN l).length = l.length := by rw [← hms, List.length_mergeSort]
  have hpw : (srtN l).Pairwise fun a b => ltN a b = true := srt_pw ordN l
  go_enter Try.func68, Try.ntmps68
  go_wp2_with fail
  refine (copyNotes_any v l _ h1 hl).mono ?_
  rintro e w1 ⟨A, c, rfl, ow1, b1⟩
  by_cases h0 : l.length = 0
  · obtain rfl : l = [] := List.eq_nil_of_length_eq_zero h0
    have hcon := fun W => AnyF.slices_SortFunc_none { Try.sortN with } A c (.func (.func 71) #[] #[]) W
    change ∀ W, Calls Try.prog 74 _ W _ at hcon
    go_wp2_with fail
    refine (hcon _).mono ?_
    rintro e w2 ⟨rfl, rfl⟩
    go_wp2_with fail
    refine (compactN_any _ [] _ (Rd.of_own ow1) (by simp) List.Pairwise.nil).mono ?_
    rintro e w3 ⟨rfl, b3⟩
    go_wp2
    go_ret
    exact ⟨A, c, rfl, own_bl ow1 b3, by (repeat' (first | (with_reducible exact Below.refl _ _) | (with_reducible refine bl_alloc ?_ _) | (with_reducible refine bl_drewN ?_ _) | (with_reducible refine bl_drew ?_) | (with_reducible assumption) | (with_reducible refine bl_to ?_ (by assumption)) | (with_reducible refine Below.trans ?_ (by assumption)) | (with_reducible refine Below.trans ?_ (Below.mono (by assumption) ?_)) | (with_reducible refine bl_set ?_ ?_ _) | (simp; done) | (simp; omega) | omega))⟩
  · obtain ⟨g, rfl, hg1, hg2⟩ := own_headN ow1 (by omega)
    have ow1' : w1.ownsRow w.heap.size 62 2 (.slice (some ⟨g, 0, none⟩) l.toArray.size c) l.toArray.size (l.toArray.toList.flatMap encN) := by rw [List.toList_toArray, List.size_toArray, ← cN_enc]; exact ow1
    have eg : ∀ args w, (callFunc 71 args).run Try.prog w = .ok (.enter 71 args) w := enters_of Try.func71 (by kernel_rfl) rfl
    have hcon := AnyQ.slices_SortFunc_total Try.sortN 2 Try.isAgg62 Try.sizeOf62 encN (fun _ => rfl) (fun x v hv => by simp [encN] at hv; rcases hv with rfl | rfl <;> rfl) cmpN swoN 71 #[] g 0 c l.toArray w1 eg (fun _ _ _ _ x y => compareG_any x y _) (holds_own (show 0 < 2 by decide) (fun _ => rfl) ow1') hg2 (by simp; omega) totN
    change Calls Try.prog 74 _ _ _ at hcon
    rw [List.toList_toArray, hms] at hcon
    have hsz : l.toArray.size = l.length := by simp
    rw [hsz] at hcon
    go_wp2_with fail
    refine hcon.mono ?_
    rintro e w2 ⟨rfl, n, os, rfl⟩
    obtain ⟨ow2, b2⟩ := own_sorted (d' := (srtN l).toArray) (n := n) (os := os) (show 0 < 2 by decide) (fun _ => rfl) (m := l.length) (by simpa using hlen) (enc := encN) ow1
    have ow2' : (sortWorldK encN 2 w1 g 0 n (srtN l).toArray os).ownsRow w.heap.size 62 2 (.slice (some ⟨g, 0, none⟩) (srtN l).length c) (srtN l).length (cN (srtN l)) := by rw [hlen, cN_enc]; exact ow2
    generalize sortWorldK encN 2 w1 g 0 n (srtN l).toArray os = w2 at *
    have hc := compactN_any _ (srtN l) w2 (Rd.of_own ow2') (by omega) hpw
    rw [hlen] at hc
    go_wp2_with fail
    refine hc.mono ?_
    rintro e w3 ⟨rfl, b3⟩
    go_wp2
    go_ret
    have ow3 := own_bl ow2' b3
    rw [hlen] at ow3 ⊢
    exact ⟨_, c, rfl, ow3, by (repeat' (first | (with_reducible exact Below.refl _ _) | (with_reducible refine bl_alloc ?_ _) | (with_reducible refine bl_drewN ?_ _) | (with_reducible refine bl_drew ?_) | (with_reducible assumption) | (with_reducible refine bl_to ?_ (by assumption)) | (with_reducible refine Below.trans ?_ (by assumption)) | (with_reducible refine Below.trans ?_ (Below.mono (by assumption) ?_)) | (with_reducible refine bl_set ?_ ?_ _) | (simp; done) | (simp; omega) | omega))⟩
end Go.Proofs.Ytbcmidencifcoaa
