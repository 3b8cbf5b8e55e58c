/- slices.SortFunc at pins, 'sortedPins' of the program; lengths up to 2^20. -/
import Derived.Test.YthgllpocljeegaaGreatDoorSortRow
import Derived.Test.YthgllpocljeegaaGreatDoorSort0
import Derived.Test.YthgllpocljeegaaGreatDoorCyl
import Derived.Test.YthgllpocljeegaaGreatDoorSortShelf
import Derived.Shelf.SlSortCmp.NoneTotal
namespace Go.Proofs.YthgllpocljeegaaGreatDoor
open Go.RowKit Go.Shelf Go.Lib
open Go.Sort (alloc_eq_grow grow flatK get_flatK size_flatK HoldsK onCells putCells ahead grow_grow)

theorem ordP : SOrd ltP where
  irr x := by cases h : ltP x x with
    | false => rfl
    | true => rw [ltP_iff] at h; omega
  trans x y z h1 h2 := by rw [ltP_iff] at *; omega
  tot x y h e := by
    cases h2 : ltP y x with
    | true => rfl
    | false =>
      exfalso
      have a : ¬ ltP x y = true := by simp [h]
      have b : ¬ ltP y x = true := by simp [h2]
      rw [ltP_iff] at a b
      exact e (Prod.ext (by omega) (by omega))
/-- the pins in order, each once -/
def srtP (l : List (Int × Int)) : List (Int × Int) := srtF ltP l
theorem own_headP {w : World} {lo : Nat} {e : TypeId} {s n : Nat} {A : Option Addr} {c : Nat} {xs : List Value} (h : w.ownsRow lo e s (.slice A n c) n xs) (hn : 0 < n) : ∃ g, A = some ⟨g, 0, none⟩ ∧ lo ≤ g ∧ g < w.heap.size := by
  obtain ⟨h0, h1⟩ := h
  rcases h1 with ⟨hv, rfl⟩ | ⟨g, cap, cur, hv, hlo, hg, r⟩
  · omega
  · obtain ⟨rfl, _, _⟩ : A = some ⟨g, 0, none⟩ ∧ n = n ∧ c = cap := by simpa using hv
    exact ⟨g, rfl, hlo, (Array.getElem?_eq_some_iff.1 hg).1⟩
def encP (x : Int × Int) : List Value := [.int .i64 x.1, .int .i64 x.2]
theorem cP_enc (l : List (Int × Int)) : cP l = l.flatMap encP := rfl
set_option maxHeartbeats 800000 in
theorem compareG_any (x y : Int × Int) (W : World) : Calls Tryz.prog 35 #[.agg #[.int .i64 x.1, .int .i64 x.2], .agg #[.int .i64 y.1, .int .i64 y.2]] W fun e w' => e = .returned (.int .i64 (cmpP x y)) ∧ ∃ q os', w' = Go.Sort.grow (W.drewN q) os' := by
  obtain ⟨a0, a1⟩ := x
  obtain ⟨b0, b1⟩ := y
  by_cases h1 : a1 < b1
  · go_enter Tryz.func35, Tryz.ntmps35
    go_wp2
    go_ret
    exact ⟨ret_int (by simp [cmpP, ltP, h1]), 0, _, by rw [alloc_eq_grow, alloc_eq_grow, grow_grow]; rfl⟩
  by_cases h2 : a1 = b1
  · subst h2
    by_cases h3 : a0 < b0
    · go_enter Tryz.func35, Tryz.ntmps35
      go_wp2
      go_ret
      exact ⟨ret_int (by simp [cmpP, ltP, h3]), 0, _, by rw [alloc_eq_grow, alloc_eq_grow, grow_grow]; rfl⟩
    by_cases h4 : a0 = b0
    · subst h4
      go_enter Tryz.func35, Tryz.ntmps35
      go_wp2
      go_ret
      exact ⟨ret_int (by simp [cmpP, ltP]), 0, _, by rw [alloc_eq_grow, alloc_eq_grow, grow_grow]; rfl⟩
    · go_enter Tryz.func35, Tryz.ntmps35
      go_wp2
      go_ret
      exact ⟨ret_int (by simp [cmpP, ltP, h3, h4]), 0, _, by rw [alloc_eq_grow, alloc_eq_grow, grow_grow]; rfl⟩
  · go_enter Tryz.func35, Tryz.ntmps35
    go_wp2
    go_ret
    exact ⟨ret_int (by simp [cmpP, ltP, h1, h2]), 0, _, by rw [alloc_eq_grow, alloc_eq_grow, grow_grow]; rfl⟩
theorem ltOf_cmpP (x y : Int × Int) : ltOf cmpP x y = ltP x y := by
  unfold ltOf
  cases h : ltP x y with
  | true => rw [cmpP_yes h]; rfl
  | false => have := cmpP_no h; simp; omega
theorem ltOf_fun : (ltOf cmpP : Int × Int → Int × Int → Bool) = ltP := funext fun x => funext fun y => ltOf_cmpP x y
theorem swoP : Go.Sort.SWO (ltOf cmpP) where
  irrefl x := by rw [ltOf_cmpP]; exact ordP.irr x
  trans x y z h1 h2 := by rw [ltOf_cmpP] at *; exact ordP.trans _ _ _ h1 h2
  ntrans x y z h1 h2 := by
    rw [ltOf_cmpP] at *
    cases h : ltP x z with
    | false => rfl
    | true =>
      by_cases e : x = y
      · subst e; rw [h] at h2; cases h2
      · have := ordP.trans _ _ _ (ordP.tot x y h1 e) h
        rw [this] at h2; cases h2
theorem totP (x y : Int × Int) (h1 : ltOf cmpP x y = false) (h2 : ltOf cmpP y x = false) : x = y := by
  rw [ltOf_cmpP] at h1 h2
  by_cases e : x = y
  · exact e
  · rw [ordP.tot x y h1 e] at h2; cases h2
theorem merge_srt {l : List (Int × Int)} (h : l.Nodup) : (l.mergeSort fun x y => !ltOf cmpP y x) = srtP l := by
  have hp := List.mergeSort_perm l (fun x y => !ltOf cmpP y x)
  refine (srt_eq ordP ?_ fun x => hp.mem_iff).symm
  have hs := List.pairwise_mergeSort (le := fun x y => !ltOf cmpP y x) (fun a b c h1 h2 => by
    simp only [ltOf_cmpP, Bool.not_eq_true'] at *
    have := swoP.ntrans c b a
    simp only [ltOf_cmpP] at this
    exact this h2 h1) (fun a b => by
    simp only [ltOf_cmpP]
    cases h1 : ltP b a with
    | false => rfl
    | true =>
      cases h2 : ltP a b with
      | false => rfl
      | true => have := ordP.trans _ _ _ h1 h2; rw [ordP.irr] at this; cases this) l
  have hn : (l.mergeSort fun x y => !ltOf cmpP y x).Nodup := hp.nodup_iff.2 h
  refine (List.Pairwise.and hs hn).imp fun {a b} hab => ?_
  simp only [ltOf_cmpP, Bool.not_eq_true'] at hab
  exact ordP.tot b a hab.1 (fun e => hab.2 e.symm)

set_option maxHeartbeats 1600000 in
theorem sortedP_any (v : Value) (l : List (Int × Int)) (w : World) (h1 : RdP w v l) (hl : l.length ≤ 1048576) (hd : l.Nodup) :
    Calls Tryz.prog 23 #[v] w (NewRow 44 2 (srtP l).length (cP (srtP l)) w) := by
  have hms := merge_srt hd
  have hlen : (srtP l).length = l.length := by rw [← hms, List.length_mergeSort]
  go_enter Tryz.func23, Tryz.ntmps23
  go_wp2_with fail
  refine (copyPins_any v l _ h1 hl).mono ?_
  rintro e w1 ⟨A, c, rfl, ow1, b1⟩
  by_cases h0 : l.length = 0
  · obtain rfl : l = [] := List.eq_nil_of_length_eq_zero h0
    have hcon := fun W => AnyF.slices_SortFunc_none { Tryz.sortN with } A c (.func (.func 35) #[] #[]) W
    change ∀ W, Calls Tryz.prog 40 _ W _ at hcon
    go_wp2_with fail
    refine (hcon _).mono ?_
    rintro e w2 ⟨rfl, rfl⟩
    go_wp2
    go_ret
    exact ⟨A, c, rfl, ow1, by (repeat' (first | (with_reducible exact Below.refl _ _) | (with_reducible refine bl_alloc ?_ _) | (with_reducible refine bl_drewN ?_ _) | (with_reducible refine bl_drew ?_) | (with_reducible assumption) | (with_reducible refine bl_to ?_ (by assumption)) | (with_reducible refine Below.trans ?_ (by assumption)) | (with_reducible refine Below.trans ?_ (Below.mono (by assumption) ?_)) | (with_reducible refine bl_set ?_ ?_ _) | (simp; done) | (simp; omega) | omega))⟩
  · obtain ⟨g, rfl, hg1, hg2⟩ := own_headP ow1 (by omega)
    have ow1' : w1.ownsRow w.heap.size 44 2 (.slice (some ⟨g, 0, none⟩) l.toArray.size c) l.toArray.size (l.toArray.toList.flatMap encP) := by rw [List.toList_toArray, List.size_toArray, ← cP_enc]; exact ow1
    have eg : ∀ args w, (callFunc 35 args).run Tryz.prog w = .ok (.enter 35 args) w := enters_of Tryz.func35 (by kernel_rfl) rfl
    have hcon := AnyQ.slices_SortFunc_total Tryz.sortN 2 Tryz.isAgg44 Tryz.sizeOf44 encP (fun _ => rfl) (fun x v hv => by simp [encP] at hv; rcases hv with rfl | rfl <;> rfl) cmpP swoP 35 #[] g 0 c l.toArray w1 eg (fun _ _ _ _ x y => compareG_any x y _) (holds_own (show 0 < 2 by decide) (fun _ => rfl) ow1') hg2 (by simp; omega) totP
    change Calls Tryz.prog 40 _ _ _ at hcon
    rw [List.toList_toArray, hms] at hcon
    have hsz : l.toArray.size = l.length := by simp
    rw [hsz] at hcon
    go_wp2_with fail
    refine hcon.mono ?_
    rintro e w2 ⟨rfl, n, os, rfl⟩
    obtain ⟨ow2, b2⟩ := own_sorted (d' := (srtP l).toArray) (n := n) (os := os) (show 0 < 2 by decide) (fun _ => rfl) (m := l.length) (by simpa using hlen) (enc := encP) ow1
    have ow2' : (sortWorldK encP 2 w1 g 0 n (srtP l).toArray os).ownsRow w.heap.size 44 2 (.slice (some ⟨g, 0, none⟩) (srtP l).length c) (srtP l).length (cP (srtP l)) := by rw [hlen, cP_enc]; exact ow2
    generalize sortWorldK encP 2 w1 g 0 n (srtP l).toArray os = w2 at *
    go_wp2
    go_ret
    rw [hlen] at ow2' ⊢
    exact ⟨_, c, rfl, ow2', by (repeat' (first | (with_reducible exact Below.refl _ _) | (with_reducible refine bl_alloc ?_ _) | (with_reducible refine bl_drewN ?_ _) | (with_reducible refine bl_drew ?_) | (with_reducible assumption) | (with_reducible refine bl_to ?_ (by assumption)) | (with_reducible refine Below.trans ?_ (by assumption)) | (with_reducible refine Below.trans ?_ (Below.mono (by assumption) ?_)) | (with_reducible refine bl_set ?_ ?_ _) | (simp; done) | (simp; omega) | omega))⟩
end Go.Proofs.YthgllpocljeegaaGreatDoor
