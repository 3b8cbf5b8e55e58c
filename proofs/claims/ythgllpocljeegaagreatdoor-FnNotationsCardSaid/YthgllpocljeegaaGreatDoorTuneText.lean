/- TuneText of the program and of the reference; lengths up to 2^20; no condition but the table of powers, for the program's. -/
import Derived.Test.YthgllpocljeegaaGreatDoorTune0
import Derived.Test.YthgllpocljeegaaGreatDoorTune
import Derived.Test.YthgllpocljeegaaGreatDoorAppStr
import Derived.Test.YthgllpocljeegaaGreatDoorJoinShelf
namespace Go.Proofs.YthgllpocljeegaaGreatDoor
open Go.RowKit Go.Sort

theorem ttF_no {l : List (Int × Int)} (h : tuneB l = false) : ttF l = ⟨#[]⟩ := by simp [ttF, h]
theorem ttF_yes {l : List (Int × Int)} (h : tuneB l = true) : ttF l = ttN l l.length := by simp [ttF, h]
set_option maxHeartbeats 3200000 in
set_option maxRecDepth 100000 in
theorem ttI_any (v : Value) (l : List (Int × Int)) (w : World) (h1 : RdN w v l) (hl : l.length ≤ 1048576) (tab : Tab10 w) :
    Calls Tryz.prog 6 #[v] w fun e w' => e = .returned (.string (ttF l)) ∧ Below w.heap.size w w' := by
  obtain ⟨A0, c0, rfl, _, hm⟩ := h1.form
  unfold maxLen at hm
  cases ho : tuneB l
  · rw [ttF_no ho]
    go_enter Tryz.func6, Tryz.ntmps6
    go_wp2_with (go_at_call 16; refine (tuneI_ok _ l _ (h1.bl (by (repeat' (first | (with_reducible exact Below.refl _ _) | (with_reducible refine bl_alloc ?_ _) | (with_reducible refine bl_drewN ?_ _) | (with_reducible refine bl_drew ?_) | (with_reducible assumption) | (with_reducible refine bl_to ?_ (by assumption)) | (with_reducible refine Below.trans ?_ (by assumption)) | (with_reducible refine Below.trans ?_ (Below.mono (by assumption) ?_)) | (with_reducible refine bl_set ?_ ?_ _) | (simp; done) | (simp; omega) | omega)))) hl).mono ?_; rintro e w1 ⟨rfl, b1⟩; obtain ⟨k1, f1, z1⟩ := bcell b1)
    go_ret
    exact ⟨rfl, by (repeat' (first | (with_reducible exact Below.refl _ _) | (with_reducible refine bl_alloc ?_ _) | (with_reducible refine bl_drewN ?_ _) | (with_reducible refine bl_drew ?_) | (with_reducible assumption) | (with_reducible refine bl_to ?_ (by assumption)) | (with_reducible refine Below.trans ?_ (by assumption)) | (with_reducible refine Below.trans ?_ (Below.mono (by assumption) ?_)) | (with_reducible refine bl_set ?_ ?_ _) | (simp; done) | (simp; omega) | omega))⟩
  rw [ttF_yes ho]
  have h40 := tuneB_len ho
  go_enter Tryz.func6, Tryz.ntmps6
  go_wp2_with (go_at_call 16; refine (tuneI_ok _ l _ (h1.bl (by (repeat' (first | (with_reducible exact Below.refl _ _) | (with_reducible refine bl_alloc ?_ _) | (with_reducible refine bl_drewN ?_ _) | (with_reducible refine bl_drew ?_) | (with_reducible assumption) | (with_reducible refine bl_to ?_ (by assumption)) | (with_reducible refine Below.trans ?_ (by assumption)) | (with_reducible refine Below.trans ?_ (Below.mono (by assumption) ?_)) | (with_reducible refine bl_set ?_ ?_ _) | (simp; done) | (simp; omega) | omega)))) hl).mono ?_; rintro e w1 ⟨rfl, b1⟩; obtain ⟨k1, f1, z1⟩ := bcell b1)
  have bel1 : Below w.heap.size w (w1.alloc (Obj.cells #[] 9)) := by (repeat' (first | (with_reducible exact Below.refl _ _) | (with_reducible refine bl_alloc ?_ _) | (with_reducible refine bl_drewN ?_ _) | (with_reducible refine bl_drew ?_) | (with_reducible assumption) | (with_reducible refine bl_to ?_ (by assumption)) | (with_reducible refine Below.trans ?_ (by assumption)) | (with_reducible refine Below.trans ?_ (Below.mono (by assumption) ?_)) | (with_reducible refine bl_set ?_ ?_ _) | (simp; done) | (simp; omega) | omega))
  have own1 : (w1.alloc (Obj.cells #[] 9)).ownsRow w1.heap.size 9 1 (.slice (some ⟨w1.heap.size, 0, none⟩) 0 0) (wdN l 0).length (cS (wdN l 0)) := own_new0 (Nat.le_refl _) rfl
  have sz1 := b1.size
  clear k1 f1 z1
  go_loopw [3, 12] (fun v i wr => ∃ k : Nat, k ≤ l.length ∧ i = .int .i64 k ∧ wr.ownsRow w1.heap.size 9 1 v (wdN l k).length (cS (wdN l k)) ∧ Below w.heap.size w wr ∧ w1.heap.size ≤ wr.heap.size) (fun _ i _ => l.length - (intOf i).toNat)
  case atStart => exact ⟨0, Nat.zero_le _, rfl, own1, bel1, by simp⟩
  case round =>
    clear own1 bel1
    obtain ⟨k, hk, rfl, ow, bel, szr⟩ := hrel
    obtain ⟨A3, c3, hq3⟩ := own_form ow
    subst hq3
    have gl := wdN_len l k
    by_cases hlt : k < l.length
    · have hlt' : (k : Int) < (l.length : Int) := by omega
      obtain ⟨b, o, rfl, hb, e0, e1⟩ := RdN.at_ (h1.bl bel) hlt
      have cn := fun W tb => ntI_any (gN l k).1 (gN l k).2 W tb
      have hnx : Hid (wdN l (k + 1) = wdN l k ++ [ntT (gN l k).1 (gN l k).2]) := rfl
      have tabr := tab.bl bel
      generalize ntT (gN l k).1 (gN l k).2 = K at *
      generalize wdN l k = R at *
      have hRl : R.length ≤ 50 := by omega
      clear gl
      obtain ⟨R2, hR2⟩ : ∃ R2, R ++ [K] = R2 := ⟨_, rfl⟩
      have HR2 := Lib.hid hR2
      clear hR2
      have CN := Lib.hid cn
      have HT := Lib.hid tabr
      have HT0 := Lib.hid tab
      clear cn h1 tab tabr
      go_wp2_with (first
        | (go_at_call 12; refine (CN.out _ (HT.out.bl (by (repeat' (first | (with_reducible exact Below.refl _ _) | (with_reducible refine bl_alloc ?_ _) | (with_reducible refine bl_drewN ?_ _) | (with_reducible refine bl_drew ?_) | (with_reducible assumption) | (with_reducible refine bl_to ?_ (by assumption)) | (with_reducible refine Below.trans ?_ (by assumption)) | (with_reducible refine Below.trans ?_ (Below.mono (by assumption) ?_)) | (with_reducible refine bl_set ?_ ?_ _) | (simp; done) | (simp; omega) | omega))))).mono ?_; rintro e w2 ⟨rfl, b2⟩; have ow2 := own_bl (ow.alloc _) b2; have bel2 : Below wr.heap.size wr w2 := bl_to (bl_alloc (Below.refl _ wr) _) b2; have sz2 := bel2.size)
        | (at_builtin; refine wpList_app_S _ rfl _ _ rfl w1.heap.size _ R rfl (ow2.alloc _) _ K rfl ?_ (by omega) (by simp; omega) R2 HR2.out ?_; rotate_left; intro A4 c4 w4 ow4 b4; have bel4 : Below w1.heap.size w2 w4 := Below.trans (Below.alloc (Below.refl _ w2) (by omega) _) b4))
      · have sz4 := bel4.size
        go_roundw
        case rel => exact ⟨k + 1, by omega, by go_num, by rw [hnx.out, HR2.out]; exact ow4, (bl_to bel bel2).trans (bel4.mono (by omega)), by omega⟩
        case measure => simp [intOf]; omega
      all_goals (simp [go_sem]; done)
    · obtain rfl : k = l.length := by omega
      have hlt' : ¬ (l.length : Int) < (l.length : Int) := by omega
      have hj := ttN_join l l.length
      have hsz := ttN_size l l.length
      have HW := Lib.hid gl
      have hjl : (Lib.join ((wdN l l.length).map (·.data.toList)) [32]).length ≤ 880 := by rw [hj, Array.length_toList]; have : (ttN l l.length).size = (ttN l l.length).data.size := rfl; omega
      have hT : (⟨(Lib.join ((wdN l l.length).map (·.data.toList)) (⟨#[32]⟩ : ByteArray).data.toList).toArray⟩ : ByteArray) = ttN l l.length := ba_ext (by rw [List.toList_toArray]; exact hj)
      have cj : ∀ W, Below wr.heap.size wr W → Hid (Calls Tryz.prog 17 #[.slice A3 (wdN l l.length).length c3, .string ⟨#[32]⟩] W fun e w' => e = .returned (.string (ttN l l.length)) ∧ Below W.heap.size W w') := fun W hW => by
        rw [← hT]
        have rd := (Rd.of_own ow).bl hW
        by_cases hz : (wdN l l.length).length = 0
        · have hnil := List.length_eq_zero_iff.1 hz
          rw [hnil]
          exact (Tryz.strings_Join_none A3 c3 ⟨#[32]⟩ W).mono fun e w' h => ⟨h.1, h.2 ▸ Below.refl _ _⟩
        · obtain ⟨b, o, hA, hb, q⟩ := rd.look (by omega)
          subst hA
          obtain ⟨_, A', c', hv, h1', h2', _⟩ := rd
          obtain ⟨_, rfl⟩ : some (⟨b, o, none⟩ : Addr) = A' ∧ c3 = c' := by simpa using hv
          unfold maxLen at h2'
          exact Tryz.strings_Join b o c3 (wdN l l.length) ⟨#[32]⟩ W (fun j x hx => q j _ (by rw [cS, List.getElem?_map, hx]; rfl)) hb (by omega) h1' (by show (Lib.join _ [32]).length ≤ _; omega)
      have CJ := Lib.hid cj
      obtain ⟨T, hTT⟩ : ∃ T, ttN l l.length = T := ⟨_, rfl⟩
      rw [hTT] at CJ hsz
      have HTT := Lib.hid hTT
      clear hTT
      generalize (wdN l l.length).length = n at *
      clear cj hjl hT hj gl
      go_wp2_with fail
      refine (CJ.out _ (Below.refl _ _)).out.mono ?_
      rintro e w2 ⟨rfl, b2⟩
      go_wp2
      go_ret
      exact ⟨by show Ending.returned (.string T) = _; rw [← HTT.out], bl_to bel b2⟩
end Go.Proofs.YthgllpocljeegaaGreatDoor
