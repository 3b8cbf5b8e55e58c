/- ReadTune of the program; lengths up to 2^20; no condition but what the library's variables hold. -/
import Derived.Test.YthgllpocljeegaaGreatDoorReadTune0
import Derived.Test.YthgllpocljeegaaGreatDoorAppNote
import Derived.Test.YthgllpocljeegaaGreatDoorReadTuneS
namespace Go.Proofs.YthgllpocljeegaaGreatDoor
open Go.RowKit Go.Sort

set_option maxHeartbeats 6400000 in
set_option maxRecDepth 100000 in
theorem rtI_any (s : ByteArray) (w : World) (hs : s.size ≤ 1048576) (env : Env w) : Calls Tryz.prog 7 #[.string s] w (NewNB (rtL s.data.toList) (rtB s.data.toList) w) := by
  obtain ⟨L, hL⟩ : ∃ L, s.data.toList = L := ⟨_, rfl⟩
  have hsz : L.length = s.size := by rw [← hL, sz_len]
  have hb0 := bl_alloc (Below.refl w.heap.size w) (Obj.cells #[] 38)
  have hown0 : (w.alloc (Obj.cells #[] 38)).ownsRow w.heap.size 38 2 (.slice (some ⟨w.heap.size, 0, none⟩) ([] : List (Int × Int)).length 0) ([] : List (Int × Int)).length (cN []) := own_new0 (Nat.le_refl _) rfl
  rw [hL]
  by_cases h0 : L = []
  · have hse : s = ⟨#[]⟩ := ba_ext (by rw [hL, h0])
    subst hse
    obtain ⟨q1, q2⟩ := rt_nil
    rw [h0, q1, q2]
    clear h0 q1 q2 hL hsz
    go_enter Tryz.func7, Tryz.ntmps7
    go_wp2
    refine bodyPost_ret (v := .tuple #[.slice (some ⟨w.heap.size, 0, none⟩) ([] : List (Int × Int)).length 0, .bool true]) (by simp [results, Tryz.results7, go_sem]) rfl ⟨_, _, rfl, hown0, hb0⟩
  have hie : s.toList.isEmpty = false := by
    rw [Lib.toList_data, hL]
    cases L with
    | nil => exact absurd rfl h0
    | cons => rfl
  have csp : Calls Tryz.prog 18 #[.string s, .string ⟨#[32]⟩] (w.alloc (Obj.cells #[] 38)) (NewRow 9 1 ((spl 32 L).map baL).length (cS ((spl 32 L).map baL)) (w.alloc (Obj.cells #[] 38))) := by
    obtain ⟨m, hm⟩ := (env.bl hb0).ml
    have h1 := splitB_spl 32 ⟨#[32]⟩ rfl (Lib.countB s ⟨#[32]⟩) s rfl
    rw [hL] at h1
    have hln : Lib.countB s ⟨#[32]⟩ + 1 = ((spl 32 L).map baL).length := by
      rw [← h1]
      exact (Lib.splitB_all ⟨#[32]⟩ (Nat.le_refl 1) 0 _ s rfl).symm
    have h2 := Tryz.strings_Split s ⟨#[32]⟩ m (w.alloc (Obj.cells #[] 38)) (by omega) hm (Nat.le_refl 1)
    have hpl := spl_len 32 L
    rw [h1, hln] at h2
    refine h2.mono ?_
    rintro e w' ⟨rfl, rfl⟩
    refine ⟨_, _, rfl, ?_, bl_alloc (Below.refl _ _) _⟩
    have := World.ownsRow_lit (base := (w.alloc (Obj.cells #[] 38)).heap.size) (e := 9) (size := 1) (w.alloc (Obj.cells #[] 38)) (((spl 32 L).map baL).map Value.string).toArray ((spl 32 L).map baL).length (Nat.le_refl _) (by unfold maxLen; rw [List.length_map]; omega) (by simp)
    simpa [cS] using this
  have hpl := spl_len 32 L
  have hpc := fun k (h : k < (spl 32 L).length) => piece_len L h
  have hyes := fun h1 h2 => rt_yes (L := L) h0 h1 h2
  have hno := fun h => rt_no (L := L) h0 h
  have hct := fun h => rt_cnt (L := L) h
  have hgs := fun k (h : k < (spl 32 L).length) => gS_map (spl 32 L) h
  generalize spl 32 L = P at *
  obtain ⟨R, hR⟩ : ∃ R, P.map baL = R := ⟨_, rfl⟩
  have hRl : P.length = R.length := by rw [← hR, List.length_map]
  rw [hR] at csp hgs
  rw [hRl] at hpl hpc hyes hno hgs hct
  have HCT := Lib.hid hct
  generalize rtB L = B at *
  generalize rtL L = Z at *
  have HYES := Lib.hid hyes
  have HNO := Lib.hid hno
  have HGS := Lib.hid hgs
  have HPC := Lib.hid hpc
  have hR9 : R.length ≤ 1048577 := by omega
  have HSZ := Lib.hid hsz
  have ENV := Lib.hid env
  clear hyes hno hgs hpc hct hR hRl hpl hL h0 hsz env
  go_enter Tryz.func7, Tryz.ntmps7
  go_wp2_with fail
  refine csp.mono ?_
  rintro e w1 ⟨A1, c1, rfl, ow1, b1⟩
  have rr : RdS w1 (.slice A1 R.length c1) R := Rd.of_own ow1
  have own1 : w1.ownsRow w.heap.size 38 2 (.slice (some ⟨w.heap.size, 0, none⟩) 0 0) (wsN P 0).length (cN (wsN P 0)) := own_bl hown0 b1
  have bel1 := bl_to hb0 b1
  have lt1 : w.heap.size < w1.heap.size := by have := b1.size; simp at this; omega
  have h1b : ∀ b, (Value.slice A1 R.length c1).ownBlock = some b → w.heap.size < b ∧ b < w1.heap.size := fun b e => by have h := ow1.lt b e; simp at h; omega
  have orr := own_lo (lo' := w.heap.size + 1) ow1 (by simp)
  have hob : ∀ b, (Value.slice (some ⟨w.heap.size, 0, none⟩) 0 0).ownBlock = some b → b = w.heap.size ∨ w1.heap.size ≤ b := fun b e => by simp [Value.ownBlock] at e; exact .inl e.symm
  clear csp ow1 b1 hown0 hb0 rr
  go_wp2
  go_loopw [4, 16] (fun a i wr => ∃ k : Nat, k ≤ R.length ∧ i = .int .i64 k ∧ wsB P k = true ∧ wr.ownsRow w.heap.size 38 2 a (wsN P k).length (cN (wsN P k)) ∧ wr.ownsRow (w.heap.size + 1) 9 1 (.slice A1 R.length c1) R.length (cS R) ∧ (∀ b, a.ownBlock = some b → b = w.heap.size ∨ w1.heap.size ≤ b) ∧ w1.heap.size ≤ wr.heap.size ∧ Below w.heap.size w wr) (fun _ i _ => R.length - (intOf i).toNat)
  case atStart => exact ⟨0, Nat.zero_le _, rfl, rfl, own1, orr, hob, Nat.le_refl _, bel1⟩
  case round =>
    clear own1 orr hob bel1
    obtain ⟨k, hk, rfl, hb, ow, orr, hob, szr, bel⟩ := hrel
    have rr : RdS wr (.slice A1 R.length c1) R := Rd.of_own orr
    have HB := Lib.hid hb
    obtain ⟨A3, c3, hv3⟩ := own_form ow
    subst hv3
    have hwl := wsN_len P k
    clear hb
    by_cases hlt : k < R.length
    · have hlt' : (k : Int) < (R.length : Int) := by omega
      obtain ⟨b, o, rfl, hbb, e0⟩ := RdS.at_ rr hlt
      have hgk := HGS.out k hlt
      have hsk : (gS R k).size ≤ 1048576 := by
        have h1 := HPC.out k hlt
        rw [hgk, baL_size]
        have := HSZ.out
        omega
      have cr := rnI_any (gS R k) wr hsk (ENV.out.bl bel)
      have hdk : (gS R k).data.toList = P.getD k [] := by rw [hgk, baL_data]
      rw [hdk] at cr
      have hnx : Hid (wsN P (k + 1) = wsN P k ++ [wkN P k]) := rfl
      have hbx : Hid (wsB P (k + 1) = (wsB P k && rnB (P.getD k []))) := rfl
      have hkk : wkN P k = (((rnN (P.getD k [])).1 : Int), ((rnN (P.getD k [])).2 : Int)) := rfl
      obtain ⟨n1, hn1⟩ : ∃ n, (rnN (P.getD k [])).1 = n := ⟨_, rfl⟩
      obtain ⟨n2, hn2⟩ : ∃ n, (rnN (P.getD k [])).2 = n := ⟨_, rfl⟩
      rw [hn1, hn2] at cr hkk
      rw [hkk] at hnx
      obtain ⟨S, hS⟩ : ∃ S, gS R k = S := ⟨_, rfl⟩
      rw [hS] at cr e0
      clear hgk hdk hkk hn1 hn2 hsk hS
      cases hq : rnB (P.getD k [])
      · obtain ⟨q1, q2⟩ := HNO.out (.inl (wsB_no (n := R.length) hlt hq))
        rw [hq] at cr
        subst q1 q2
        clear hq hnx hbx hwl
        go_wp2_with fail
        refine cr.mono ?_
        rintro e w2 ⟨rfl, b2⟩
        have bel2 := bl_to bel b2
        have sz2 := bel2.size
        go_wp2
        refine bodyPost_ret (v := .tuple #[.slice none ([] : List (Int × Int)).length 0, .bool false]) (by simp [results, Tryz.results7, go_sem]) rfl ⟨_, _, rfl, World.ownsRow_nil _ _ _ _, by (repeat' (first | (with_reducible exact Below.refl _ _) | (with_reducible refine bl_alloc ?_ _) | (with_reducible refine bl_drewN ?_ _) | (with_reducible refine bl_drew ?_) | (with_reducible assumption) | (with_reducible refine bl_to ?_ (by assumption)) | (with_reducible refine Below.trans ?_ (by assumption)) | (with_reducible refine Below.trans ?_ (Below.mono (by assumption) ?_)) | (with_reducible refine bl_set ?_ ?_ _) | (simp; done) | (simp; omega) | omega))⟩
      · rw [hq] at cr
        have hb1 : wsB P (k + 1) = true := by rw [hbx.out, HB.out, hq]; rfl
        have HB1 := Lib.hid hb1
        obtain ⟨W, hW⟩ : ∃ W, wsN P k = W := ⟨_, rfl⟩
        rw [hW] at ow hwl hnx hob
        rw [hW]
        have hWl : W.length ≤ 4194304 := by omega
        clear hq hbx hb1 hwl hW
        go_wp2_with fail
        refine cr.mono ?_
        rintro e w2 ⟨rfl, b2⟩
        have ow2 := own_bl ow b2
        have orr2 := own_bl orr b2
        have sz2b := b2.size
        have bel2 := bl_to bel b2
        have sz2 := bel2.size
        clear cr b2 ow rr orr e0 bel
        go_wp2_with (at_builtin; refine wpList_app_N _ rfl _ _ rfl w.heap.size _ W rfl ((ow2.alloc _).alloc _) _ (n1 : Int) (n2 : Int) rfl ?_ ?_ (by omega) (by simp; omega) ?_; rotate_left 2; intro v2 w5 ow6 bel6 gr6 at6)
        · obtain ⟨A6, c6, rfl⟩ := own_form ow6
          have gr7 : World.grownBy _ w5 (Value.slice A3 W.length c3).ownBlock := gr6
          have at7 : (Value.slice A6 (W ++ [((n1 : Int), (n2 : Int))]).length c6).ownBlock = (Value.slice A3 W.length c3).ownBlock ∨ _ := at6
          have orr6 := ((orr2.alloc _).alloc _).kept gr7 (apart_sp h1b hob)
          have hob6 : ∀ b, (Value.slice A6 (W ++ [((n1 : Int), (n2 : Int))]).length c6).ownBlock = some b → b = w.heap.size ∨ w1.heap.size ≤ b := fun b e => by
            rcases at7 with h | h
            · exact hob b (by rw [← h]; exact e)
            · rw [h] at e
              simp at e
              omega
          have sz6 := gr6.size
          simp only [World.size_alloc] at sz6
          go_roundw
          case rel => exact ⟨k + 1, by omega, by go_num, HB1.out, by rw [hnx.out]; exact ow6, orr6, hob6, by omega, by (repeat' (first | (with_reducible exact Below.refl _ _) | (with_reducible refine bl_alloc ?_ _) | (with_reducible refine bl_drewN ?_ _) | (with_reducible refine bl_drew ?_) | (with_reducible assumption) | (with_reducible refine bl_to ?_ (by assumption)) | (with_reducible refine Below.trans ?_ (by assumption)) | (with_reducible refine Below.trans ?_ (Below.mono (by assumption) ?_)) | (with_reducible refine bl_set ?_ ?_ _) | (simp; done) | (simp; omega) | omega))⟩
          case measure => simp [intOf]; omega
        all_goals (simp [go_sem]; done)
    · have hke : k = R.length := by omega
      have hlt' : ¬ (k : Int) < (R.length : Int) := by omega
      subst hke
      obtain ⟨W, hW⟩ : ∃ W, wsN P R.length = W := ⟨_, rfl⟩
      have hWl : W.length ≤ 1048576 := by rw [← hW, wsN_len]; have h1 := HCT.out HB.out; have h2 := HSZ.out; omega
      cases hq : tuneB W
      · obtain ⟨q1, q2⟩ := HNO.out (.inr (by rw [hW]; exact hq))
        subst q1 q2
        have ct := tuneI_ok _ W wr (by rw [hW] at ow; exact Rd.of_own ow) (by omega)
        rw [hq] at ct
        rw [hW]
        clear hq hW hwl ow
        go_wp2_with fail
        refine ct.mono ?_
        rintro e w2 ⟨rfl, b2⟩
        have bel2 := bl_to bel b2
        have sz2 := bel2.size
        go_wp2
        refine bodyPost_ret (v := .tuple #[.slice none ([] : List (Int × Int)).length 0, .bool false]) (by simp [results, Tryz.results7, go_sem]) rfl ⟨_, _, rfl, World.ownsRow_nil _ _ _ _, by (repeat' (first | (with_reducible exact Below.refl _ _) | (with_reducible refine bl_alloc ?_ _) | (with_reducible refine bl_drewN ?_ _) | (with_reducible refine bl_drew ?_) | (with_reducible assumption) | (with_reducible refine bl_to ?_ (by assumption)) | (with_reducible refine Below.trans ?_ (by assumption)) | (with_reducible refine Below.trans ?_ (Below.mono (by assumption) ?_)) | (with_reducible refine bl_set ?_ ?_ _) | (simp; done) | (simp; omega) | omega))⟩
      · obtain ⟨q1, q2⟩ := HYES.out HB.out (by rw [hW]; exact hq)
        rw [hW] at q2 ow
        subst q1 q2
        have ct := tuneI_ok _ Z wr (Rd.of_own ow) (by rw [← hW, wsN_len]; have h1 := HCT.out HB.out; have h2 := HSZ.out; omega)
        rw [hq] at ct
        rw [hW]
        clear hq hW hwl
        go_wp2_with fail
        refine ct.mono ?_
        rintro e w2 ⟨rfl, b2⟩
        go_wp2
        refine bodyPost_ret (v := .tuple #[.slice A3 Z.length c3, .bool true]) (by simp [results, Tryz.results7, go_sem]) rfl ⟨_, _, rfl, own_bl ow b2, bl_to bel b2⟩
end Go.Proofs.YthgllpocljeegaaGreatDoor
