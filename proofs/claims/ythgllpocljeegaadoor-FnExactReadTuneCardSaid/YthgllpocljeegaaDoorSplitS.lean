/- l29Split of the reference: the pieces of a text; lengths up to 2^20. -/
import Derived.Test.YthgllpocljeegaaDoorNum
import Derived.Test.YthgllpocljeegaaDoorAppStr
import Derived.Test.YthgllpocljeegaaDoorParse
namespace Go.Proofs.YthgllpocljeegaaDoor
open Go.RowKit

/-- what the loop holds: the pieces R lie ahead of b, and from b to k there is no c -/
def SplSt (c : UInt8) (L : List UInt8) (k b : Nat) (R : List (List UInt8)) : Prop :=
  (k ≤ L.length ∧ b ≤ k ∧ spl c L = R ++ spl c (L.drop b) ∧ c ∉ (L.drop b).take (k - b)) ∨ (k = L.length + 1 ∧ spl c L = R)
theorem splst_zero (c : UInt8) (L : List UInt8) : SplSt c L 0 0 [] := .inl ⟨Nat.zero_le _, Nat.le_refl _, by simp, by simp⟩
theorem splst_end {c : UInt8} {L : List UInt8} {b : Nat} {R : List (List UInt8)} (h : SplSt c L L.length b R) : b ≤ L.length ∧ SplSt c L (L.length + 1) (L.length + 1) (R ++ [(L.drop b).take (L.length - b)]) := by
  rcases h with ⟨_, hb, h1, h2⟩ | ⟨h, _⟩
  · have e : (L.drop b).take (L.length - b) = L.drop b := List.take_of_length_le (by rw [List.length_drop]; exact Nat.le_refl _)
    rw [e] at h2 ⊢
    exact ⟨hb, .inr ⟨rfl, by rw [h1, spl_none h2]⟩⟩
  · omega
theorem splst_hit {c : UInt8} {L : List UInt8} {k b : Nat} {R : List (List UInt8)} (h : SplSt c L k b R) (hk : k < L.length) (hc : L[k] = c) : b ≤ k ∧ SplSt c L (k + 1) (k + 1) (R ++ [(L.drop b).take (k - b)]) := by
  rcases h with ⟨_, hb, h1, h2⟩ | ⟨h, _⟩
  · have e : L.drop b = (L.drop b).take (k - b) ++ c :: L.drop (k + 1) := by
      have h3 := List.take_append_drop (k - b) (L.drop b)
      rw [List.drop_drop, show b + (k - b) = k by omega, List.drop_eq_getElem_cons hk, hc] at h3
      exact h3.symm
    refine ⟨hb, .inl ⟨by omega, Nat.le_refl _, ?_, by simp⟩⟩
    rw [h1, List.append_assoc, e, spl_hit h2, ← e]
    rfl
  · omega
theorem splst_miss {c : UInt8} {L : List UInt8} {k b : Nat} {R : List (List UInt8)} (h : SplSt c L k b R) (hk : k < L.length) (hc : L[k] ≠ c) : SplSt c L (k + 1) b R := by
  rcases h with ⟨_, hb, h1, h2⟩ | ⟨h, _⟩
  · refine .inl ⟨by omega, by omega, h1, ?_⟩
    have e : (L.drop b).take (k + 1 - b) = (L.drop b).take (k - b) ++ [L[k]] := by
      rw [show k + 1 - b = k - b + 1 by omega, List.take_succ_eq_append_getElem (by rw [List.length_drop]; omega), List.getElem_drop]
      congr 2
      congr 1
      omega
    rw [e, List.mem_append, List.mem_singleton]
    exact fun q => q.elim h2 (fun q => hc q.symm)
  · omega
theorem splst_done {c : UInt8} {L : List UInt8} {b : Nat} {R : List (List UInt8)} (h : SplSt c L (L.length + 1) b R) : spl c L = R := by
  rcases h with ⟨h, _⟩ | ⟨_, h⟩
  · omega
  · exact h
theorem piece_ba (s : ByteArray) (b k : Nat) : s.extract b k = baL ((s.data.toList.drop b).take (k - b)) := ba_ext (by rw [extract_data, baL_data])
set_option maxHeartbeats 6400000 in
set_option maxRecDepth 100000 in
theorem split_any (s : ByteArray) (c : UInt8) (cI : Int) (hc : (c.toNat : Int) = cI) (w : World) (hs : s.size ≤ 1048576) :
    Calls Tryd.prog 29 #[.string s, .int .u8 cI] w (NewRow 9 1 ((spl c s.data.toList).map baL).length (cS ((spl c s.data.toList).map baL)) w) := by
  have own1 : (w.alloc (Obj.cells #[] 9)).ownsRow w.heap.size 9 1 (.slice (some ⟨w.heap.size, 0, none⟩) 0 0) (([] : List (List UInt8)).map baL).length (cS (([] : List (List UInt8)).map baL)) := own_new0 (Nat.le_refl _) rfl
  have bel1 : Below w.heap.size w (w.alloc (Obj.cells #[] 9)) := by (repeat' (first | (with_reducible exact Below.refl _ _) | (with_reducible refine bl_alloc ?_ _) | (with_reducible refine bl_drewN ?_ _) | (with_reducible refine bl_drew ?_) | (with_reducible assumption) | (with_reducible refine bl_to ?_ (by assumption)) | (with_reducible refine Below.trans ?_ (by assumption)) | (with_reducible refine Below.trans ?_ (Below.mono (by assumption) ?_)) | (with_reducible refine bl_set ?_ ?_ _) | (simp; done) | (simp; omega) | omega))
  have hsl := sz_len s
  have HSL := Lib.hid hsl
  have st1 : SplSt c s.data.toList 0 0 [] := splst_zero c _
  clear hsl
  go_enter Tryd.func29, Tryd.ntmps29
  go_wp2
  go_loopw [5, 6, 7] (fun v b i wr => ∃ (k bb : Nat) (R : List (List UInt8)), k ≤ s.size + 1 ∧ i = .int .i64 k ∧ b = .int .i64 bb ∧ R.length ≤ k ∧ SplSt c s.data.toList k bb R ∧ wr.ownsRow w.heap.size 9 1 v (R.map baL).length (cS (R.map baL)) ∧ Below w.heap.size w wr) (fun _ _ i _ => s.size + 1 - (intOf i).toNat)
  case atStart => exact ⟨0, 0, [], Nat.zero_le _, rfl, rfl, Nat.zero_le _, st1, own1, bel1⟩
  case round =>
    clear own1 bel1 st1
    obtain ⟨k, bb, R, hk, rfl, rfl, hR, st, ow, bel⟩ := hrel
    have HST := Lib.hid st
    have szr := bel.size
    obtain ⟨R1, hR1⟩ : ∃ R1, R.map baL = R1 := ⟨_, rfl⟩
    have hR1l : R1.length ≤ 1048577 := by rw [← hR1, List.length_map]; omega
    rw [hR1] at ow
    obtain ⟨A3, c3, hv⟩ := own_form ow
    subst hv
    have HR1 := Lib.hid hR1
    clear st hR1
    by_cases hend : k = s.size
    · subst hend
      have hq := HST.out
      rw [← HSL.out] at hq
      obtain ⟨hbl, stn⟩ := splst_end hq
      have hle : (s.size : Int) ≤ (s.size : Int) := Int.le_refl _
      have hbb : (bb : Int) ≤ (s.size : Int) := by have := HSL.out; omega
      rw [HSL.out] at stn
      have hpc := piece_ba s bb s.size
      obtain ⟨R2, hR2⟩ : ∃ R2, R1 ++ [s.extract bb s.size] = R2 := ⟨_, rfl⟩
      have HR2 := Lib.hid hR2
      have HPC := Lib.hid hpc
      have STN := Lib.hid stn
      have hbb2 : bb ≤ s.size := by omega
      clear hR2 hpc stn hq hbl
      go_wp2_with (at_builtin; refine wpList_app_S _ rfl _ _ rfl w.heap.size _ R1 rfl (ow.alloc _) _ (s.extract bb s.size) rfl ?_ (by omega) (by simp; omega) R2 HR2.out ?_; rotate_left; intro A4 c4 w4 ow4 b4; have bel4 : Below w.heap.size wr w4 := Below.trans (Below.alloc (Below.refl _ wr) (by omega) _) b4)
      · go_roundw
        case rel => exact ⟨s.size + 1, s.size + 1, R ++ [(s.data.toList.drop bb).take (s.size - bb)], by omega, by go_num, by go_num, by simp; omega, STN.out, by rw [List.map_append, HR1.out, List.map_cons, List.map_nil, ← HPC.out, HR2.out]; exact ow4, bel.trans bel4⟩
        case measure => simp [intOf]
      all_goals (simp [go_sem]; done)
    · by_cases hlt : k < s.size
      · have hlt' : (k : Int) < (s.size : Int) := by omega
        have hle : (k : Int) ≤ (s.size : Int) := by omega
        have hnd : ¬ (k : Int) = (s.size : Int) := by omega
        have hndb : ((k : Int) == (s.size : Int)) = false := by rw [beq_eq_false_iff_ne]; exact hnd
        have hbyte := byte_at s k hlt
        by_cases hcc : s[k] = c
        · obtain ⟨hbl, stn⟩ := splst_hit HST.out (by rw [HSL.out]; exact hlt) (by rw [hbyte]; exact hcc)
          have hbb : (bb : Int) ≤ (k : Int) := by omega
          have hci : (s[k].toNat : Int) = cI := by rw [hcc]; exact hc
          have hcib : ((s[k].toNat : Int) == cI) = true := by rw [hci]; simp
          have hpc := piece_ba s bb k
          obtain ⟨R2, hR2⟩ : ∃ R2, R1 ++ [s.extract bb k] = R2 := ⟨_, rfl⟩
          have HR2 := Lib.hid hR2
          have HPC := Lib.hid hpc
          have STN := Lib.hid stn
          clear hR2 hpc stn hbyte hcc hc
          go_wp2_with (at_builtin; refine wpList_app_S _ rfl _ _ rfl w.heap.size _ R1 rfl (ow.alloc _) _ (s.extract bb k) rfl ?_ (by omega) (by simp; omega) R2 HR2.out ?_; rotate_left; intro A4 c4 w4 ow4 b4; have bel4 : Below w.heap.size wr w4 := Below.trans (Below.alloc (Below.refl _ wr) (by omega) _) b4)
          · go_roundw
            case rel => exact ⟨k + 1, k + 1, R ++ [(s.data.toList.drop bb).take (k - bb)], by omega, by go_num, by go_num, by simp; omega, STN.out, by rw [List.map_append, HR1.out, List.map_cons, List.map_nil, ← HPC.out, HR2.out]; exact ow4, bel.trans bel4⟩
            case measure => simp [intOf]; omega
          all_goals (simp [go_sem]; done)
        · have stn := splst_miss HST.out (by rw [HSL.out]; exact hlt) (by rw [hbyte]; exact hcc)
          have hci : ¬ (s[k].toNat : Int) = cI := fun e => hcc (UInt8.toNat_inj.1 (by omega))
          have hcib : ((s[k].toNat : Int) == cI) = false := by rw [beq_eq_false_iff_ne]; exact hci
          have STN := Lib.hid stn
          clear stn hbyte hcc hc
          go_wp2
          go_roundw
          case rel => exact ⟨k + 1, bb, R, by omega, by go_num, rfl, by omega, STN.out, by rw [HR1.out]; exact ow, bel⟩
          case measure => simp [intOf]; omega
      · have hke : k = s.size + 1 := by omega
        have hq := HST.out
        rw [hke, ← HSL.out] at hq
        have hd := splst_done hq
        have hle : ¬ (k : Int) ≤ (s.size : Int) := by omega
        have HD := Lib.hid hd
        clear hq hd hke
        go_wp2
        go_ret
        have hl : R1.length = R.length := by rw [← HR1.out, List.length_map]
        refine ⟨A3, c3, ?_, ?_, bel⟩
        · show Ending.returned (.slice A3 R1.length c3) = _
          rw [HD.out, hl]
        · rw [HD.out, HR1.out, ← hl]; exact ow
end Go.Proofs.YthgllpocljeegaaDoor
