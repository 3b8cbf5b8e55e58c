/- The plain law of the strips, as the law asks it; no condition. -/
import Derived.Test.YtbcmidencifcoaaStrips0
import Derived.Test.YtbcmidencifcoaaSame2
namespace Go.Proofs.Ytbcmidencifcoaa
open Go.RowKit

theorem cuA_mem {l : List (Int × Int)} {m : Int} {x : Int × Int} : x ∈ cuA l m l.length ↔ x ∈ l ∧ x.1 < m := by
  rw [cuA_eq l m _ (Nat.le_refl _), List.take_length]; simp
theorem cuB_mem {l : List (Int × Int)} {m : Int} {x : Int × Int} : x ∈ cuB l m l.length ↔ ∃ y ∈ l, m ≤ y.1 ∧ x = (y.1 - m, y.2) := by
  rw [cuB_eq l m _ (Nat.le_refl _), List.take_length]
  simp only [List.mem_map, List.mem_filter, decide_eq_true_eq]
  constructor
  · rintro ⟨y, ⟨h1, h2⟩, rfl⟩; exact ⟨y, h1, h2, rfl⟩
  · rintro ⟨y, h1, h2, rfl⟩; exact ⟨y, ⟨h1, h2⟩, rfl⟩
structure StripsL (n k : Int) (l : List (Int × Int)) : Prop where
  ok : stripB n l = true
  cb : cutB n l k = true
  gb : gluB k (cuA l k l.length) (n - k) (cuB l k l.length) = true
  gl : gluL k (cuA l k l.length) (n - k) (cuB l k l.length) = l
  ha : hinF n l 0 k = ((cuA l k l.length).length : Int)
  hb : hinF n l k n = ((cuB l k l.length).length : Int)
  tl : (turL n l).length = l.length
  tt : turL n (turL n l) = l
  tok : stripB n (turL n l) = true
  h0 : hinF n l 0 n = (l.length : Int)
  ht : hinF n (turL n l) 0 k = hinF n l (n - k) n
  sb : sofB l 3 4 = decide (0 < l.length)
  s0 : 0 < l.length → sofFn l 3 4 = lastF l + 8 ∧ (gN (sofFl l 3 4) 0).1 = 3 ∧ sameB (sofFl l 3 4) l = true ∧ (sofFl l 3 4).length = l.length
theorem strips_law {n k : Int} {l : List (Int × Int)} (hd : drS n l) (hk : 1 ≤ k ∧ k ≤ n - 1) : StripsL n k l := by
  have ok := drS_ok hd
  obtain ⟨hn, l11, ho, hx⟩ := hd
  obtain ⟨_, okl⟩ := tuneB_iff ho
  have pw := pw_of_ok okl
  have cb : cutB n l k = true := by rw [cutB, ok, inB_yes hk.1 hk.2]; rfl
  have hcl := cu_len l k l.length
  have okA : stripB k (cuA l k l.length) = true := by
    refine strip_of (by omega) ?_ (by omega) (fun x hx' => ?_)
    · rw [cuA_eq l k _ (Nat.le_refl _), List.take_length]; exact pw.filter _
    · obtain ⟨h1, h2⟩ := cuA_mem.1 hx'
      have := hx x h1
      omega
  have okB : stripB (n - k) (cuB l k l.length) = true := by
    refine strip_of (by omega) ?_ (by omega) (fun x hx' => ?_)
    · rw [cuB_eq l k _ (Nat.le_refl _), List.take_length, List.pairwise_map]
      refine (pw.filter _).imp (fun {a b} h => ?_)
      rw [ltN_iff] at h ⊢
      simp only
      omega
    · obtain ⟨y, h1, h2, rfl⟩ := cuB_mem.1 hx'
      have := hx y h1
      simp only
      omega
  have gc := glue_cut pw k
  have gb : gluB k (cuA l k l.length) (n - k) (cuB l k l.length) = true := by
    rw [gluB, okA, okB, gc, show k + (n - k) = n by omega, ok]; rfl
  have cnt : ∀ a b : Int, hinF n l a b = ((l.filter fun x => decide (a ≤ x.1 ∧ x.1 < b)).length : Int) := fun a b => by rw [hinF, ok, if_pos rfl, hinN_all]
  have t1 := turL_eq (n := n) (by omega) ok
  have tok : stripB n (turL n l) = true := by rw [t1]; exact turned_ok (by omega) ok
  have tl : (turL n l).length = l.length := by rw [t1, (turn_perm ok).length_eq, rvN_len]
  have sok : 0 < l.length → stripB (sofN l 3 4) (sofL l 3) = true := fun h0 => by
    have hlast : lastF l = (gN l (l.length - 1)).1 - (gN l 0).1 := by rw [lastF, ho, if_pos rfl, if_neg (by omega)]
    have b0 := hx _ (gN_mem (show 0 < l.length from h0))
    have b1 := hx _ (gN_mem (show l.length - 1 < l.length by omega))
    have m1 := okN_mono okl (show 0 ≤ l.length - 1 by omega) (show l.length - 1 < l.length by omega)
    have hN : sofN l 3 4 = (gN l (l.length - 1)).1 - (gN l 0).1 + 8 := by rw [sofN, hlast]; omega
    refine strip_of (by omega) ?_ (by rw [sofL, shN_len]; omega) (fun x hx' => ?_)
    · rw [sofL, shN_eq, List.pairwise_map]
      refine pw.imp (fun {a b} h => ?_)
      rw [ltN_iff] at h ⊢
      simp only
      omega
    · rw [sofL, shN_eq, List.mem_map] at hx'
      obtain ⟨y, hy, rfl⟩ := hx'
      obtain ⟨j, hj, rfl⟩ := List.getElem_of_mem hy
      have bj := hx _ (List.getElem_mem hj)
      have m2 := okN_mono okl (show 0 ≤ j by omega) hj
      have m3 := okN_mono okl (show j ≤ l.length - 1 by omega) (show l.length - 1 < l.length by omega)
      rw [gN_eq hj] at m2 m3
      simp only
      omega
  have sb : sofB l 3 4 = decide (0 < l.length) := by
    by_cases h0 : 0 < l.length
    · simp [sofB, ho, h0, sok h0, inB_yes (show (0 : Int) ≤ 3 by omega) (show (3 : Int) ≤ 100 by omega), inB_yes (show (0 : Int) ≤ 4 by omega) (show (4 : Int) ≤ 100 by omega)]
    · have e : l.length = 0 := by omega
      simp [sofB, e, h0]
  refine ⟨ok, cb, gb, by rw [gluL, gb, if_pos rfl, gc], ?_, ?_, tl, turn_turn (by omega) ok, tok, ?_, ?_, ?_, fun h0 => ?_⟩
  · rw [cnt, cuA_eq l k _ (Nat.le_refl _), List.take_length]
    congr 2
    refine List.filter_congr (fun x hx' => ?_)
    have := hx x hx'
    simp only [decide_eq_decide]
    omega
  · rw [cnt, cuB_eq l k _ (Nat.le_refl _), List.take_length, List.length_map]
    congr 2
    refine List.filter_congr (fun x hx' => ?_)
    have := hx x hx'
    simp only [decide_eq_decide]
    omega
  · rw [cnt, List.filter_eq_self.2]
    intro x hx'
    have := hx x hx'
    simp
    omega
  · have := turn_count (n := n) (k := k) (l := l) (by omega) ok (by omega)
    rw [hinF, tok, if_pos rfl, hinF, ok, if_pos rfl]
    exact this
  · exact sb
  · have hB : sofB l 3 4 = true := by rw [sb]; simpa using h0
    have hl : sofFl l 3 4 = sofL l 3 := by rw [sofFl, hB]; rfl
    have hn : sofFn l 3 4 = sofN l 3 4 := by rw [sofFn, hB]; rfl
    have hlen : (sofL l 3).length = l.length := by rw [sofL, shN_len]
    refine ⟨by rw [hn, sofN]; omega, ?_, ?_, by rw [hl, hlen]⟩
    · rw [hl, sofL, shN_get h0]
      show (gN l 0).1 + (3 - (gN l 0).1) = 3
      omega
    · rw [hl, sameB, (stripB_iff (sok h0)).2.1, ho, hlen]
      simp only [Bool.true_and, decide_true]
      refine smN_all fun j hj => ?_
      rw [smB, decide_eq_true_eq, sofL, shN_get hj, shN_get h0]
      exact ⟨by show (gN l j).1 + (3 - (gN l 0).1) - ((gN l 0).1 + (3 - (gN l 0).1)) = (gN l j).1 - (gN l 0).1; omega, rfl⟩
end Go.Proofs.Ytbcmidencifcoaa
