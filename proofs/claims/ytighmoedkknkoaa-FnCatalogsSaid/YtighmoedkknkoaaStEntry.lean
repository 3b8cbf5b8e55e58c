/- Entry and slices of Entry: the laws' size, copy and compare; sizes up to 2^20. -/
import Derived.Test.YtighmoedkknkoaaOwnEntry
import Derived.Handy
import Derived.StillTailTactics
import Derived.Test.YtighmoedkknkoaaTail
namespace Go.Proofs.Ytighmoedkknkoaa
open Go.RowKit

theorem szEntryS_any (v : Value) (l : List En) (k : Int) (w : World) (h1 : RdE w v l) (hs : ∀ j, j < l.length → (gE l j).1.size ≤ maxLen) (hk : 0 ≤ k) (hk2 : k ≤ 1048576) :
    Calls Try.prog 9 #[v, .int .i64 k] w fun e w' => e = .returned (.int .i64 (if k - (l.length + szE l : Nat) < 0 then -1 else k - (l.length + szE l : Nat))) ∧ Below w.heap.size w w' := by
  obtain ⟨A1, c1, rfl, h3, h4⟩ := h1.form
  unfold maxLen at h4
  by_cases h0 : k - l.length < 0
  · rw [if_pos (by omega)]
    go_enter Try.func9, Try.ntmps9
    go_wp2
    go_ret
    exact ⟨rfl, Below.refl _ _⟩
  go_enter Try.func9, Try.ntmps9
  go_wp2
  go_loopw [1, 5] (fun q i wr => ∃ j : Nat, j ≤ l.length ∧ i = .int .i64 j ∧ q = .int .i64 (k - (l.length + szE (l.take j) : Nat)) ∧ 0 ≤ k - (l.length + szE (l.take j) : Nat) ∧ Below w.heap.size w wr) (fun _ i _ => l.length - (intOf i).toNat)
  case atStart => exact ⟨0, Nat.zero_le _, rfl, by simp [szE], by simp [szE]; omega, Below.refl _ _⟩
  case round =>
    obtain ⟨j, hj, rfl, rfl, hpos, bel⟩ := hrel
    by_cases hlt : j < l.length
    · obtain ⟨b, o, vt, rfl, hb, e0, e1, rt⟩ := RdE.at_ (h1.bl bel) hlt
      have hlt' : (j : Int) < (l.length : Int) := by omega
      have hst := szE_take hlt
      have hle := szE_le l (j + 1)
      have cz := fun W (h : RdN W vt (gE l j).2) => szEntry_any (gE l j).1 vt (gE l j).2 (k - (l.length + szE (l.take j) : Nat)) W (hs j hlt) h hpos (by omega)
      by_cases hz : k - (l.length + szE (l.take j) : Nat) - ((gE l j).1.size + (gE l j).2.length : Nat) < 0
      · have hF : k - (l.length + szE l : Nat) < 0 := by omega
        rw [if_pos hz] at cz
        have CZ := Lib.hid cz
        have HF := Lib.hid hF
        clear cz h1 hst hF
        go_wp2_with (go_at_call 20; refine (CZ.out _ (rt.bl (by (repeat' (first | (with_reducible exact Below.refl _ _) | (with_reducible refine bl_alloc ?_ _) | (with_reducible refine bl_drewN ?_ _) | (with_reducible refine bl_drew ?_) | (with_reducible assumption) | (with_reducible refine bl_to ?_ (by assumption)) | (with_reducible refine Below.trans ?_ (by assumption)) | (with_reducible refine Below.trans ?_ (Below.mono (by assumption) ?_)) | (with_reducible refine bl_set ?_ ?_ _) | (simp; done) | (simp; omega) | omega))))).mono ?_; rintro e w1 ⟨rfl, b1⟩; obtain ⟨k1, f1, z1⟩ := bcell b1)
        go_ret
        exact ⟨ret_int (by first | rfl | omega | (rw [if_pos HF.out])), by (repeat' (first | (with_reducible exact Below.refl _ _) | (with_reducible refine bl_alloc ?_ _) | (with_reducible refine bl_drewN ?_ _) | (with_reducible refine bl_drew ?_) | (with_reducible assumption) | (with_reducible refine bl_to ?_ (by assumption)) | (with_reducible refine Below.trans ?_ (by assumption)) | (with_reducible refine Below.trans ?_ (Below.mono (by assumption) ?_)) | (with_reducible refine bl_set ?_ ?_ _) | (simp; done) | (simp; omega) | omega))⟩
      · have hq : k - (l.length + szE (l.take j) : Nat) - ((gE l j).1.size + (gE l j).2.length : Nat) = k - (l.length + szE (l.take (j + 1)) : Nat) := by omega
        have hz2 : 0 ≤ k - (l.length + szE (l.take (j + 1)) : Nat) := by omega
        rw [if_neg hz, hq] at cz
        have CZ := Lib.hid cz
        clear cz h1 hst hq
        go_wp2_with (go_at_call 20; refine (CZ.out _ (rt.bl (by (repeat' (first | (with_reducible exact Below.refl _ _) | (with_reducible refine bl_alloc ?_ _) | (with_reducible refine bl_drewN ?_ _) | (with_reducible refine bl_drew ?_) | (with_reducible assumption) | (with_reducible refine bl_to ?_ (by assumption)) | (with_reducible refine Below.trans ?_ (by assumption)) | (with_reducible refine Below.trans ?_ (Below.mono (by assumption) ?_)) | (with_reducible refine bl_set ?_ ?_ _) | (simp; done) | (simp; omega) | omega))))).mono ?_; rintro e w1 ⟨rfl, b1⟩; obtain ⟨k1, f1, z1⟩ := bcell b1)
        go_roundw
        case rel => exact ⟨j + 1, by omega, by go_num, rfl, hz2, by (repeat' (first | (with_reducible exact Below.refl _ _) | (with_reducible refine bl_alloc ?_ _) | (with_reducible refine bl_drewN ?_ _) | (with_reducible refine bl_drew ?_) | (with_reducible assumption) | (with_reducible refine bl_to ?_ (by assumption)) | (with_reducible refine Below.trans ?_ (by assumption)) | (with_reducible refine Below.trans ?_ (Below.mono (by assumption) ?_)) | (with_reducible refine bl_set ?_ ?_ _) | (simp; done) | (simp; omega) | omega))⟩
        case measure => simp [intOf]; omega
    · obtain rfl : j = l.length := by omega
      rw [List.take_length] at hpos
      have hlt' : ¬ (l.length : Int) < (l.length : Int) := by omega
      go_wp2
      go_ret
      exact ⟨ret_int (by first | rfl | omega), bel⟩

/-- one entry made by the call -/
def NewEn (s : ByteArray) (l : List (Int × Int)) (w : World) (en : Ending) (w' : World) : Prop :=
  ∃ A c, en = .returned (.agg #[.string s, .slice A l.length c]) ∧ w'.ownsRow w.heap.size 73 2 (.slice A l.length c) l.length (cN l) ∧ Below w.heap.size w w'
set_option maxHeartbeats 800000 in
theorem toEntry_any (s : ByteArray) (v : Value) (l : List (Int × Int)) (w : World) (h1 : RdN w v l) (hl : l.length ≤ 1048576) :
    Calls Try.prog 22 #[.agg #[.string s, v]] w (NewEn s l w) := by
  go_enter Try.func22, Try.ntmps22
  go_wp2_with (go_at_call 47; refine (toNoteS_any _ l _ (h1.bl (by (repeat' (first | (with_reducible exact Below.refl _ _) | (with_reducible refine bl_alloc ?_ _) | (with_reducible refine bl_drewN ?_ _) | (with_reducible refine bl_drew ?_) | (with_reducible assumption) | (with_reducible refine bl_to ?_ (by assumption)) | (with_reducible refine Below.trans ?_ (by assumption)) | (with_reducible refine Below.trans ?_ (Below.mono (by assumption) ?_)) | (with_reducible refine bl_set ?_ ?_ _) | (simp; done) | (simp; omega) | omega)))) hl).mono ?_; rintro e w1 ⟨A1, c1, rfl, ow1, b1⟩; obtain ⟨k1, f1, z1⟩ := bcell b1)
  exact bodyPost_ret (v := .agg #[.string s, .slice A1 l.length c1]) (by simp [results, Try.results22, go_sem, k1]) rfl ⟨_, _, rfl, by (apply own_lo; repeat' (first | (with_reducible assumption) | (with_reducible apply ownsRow_setCell_below) | (with_reducible apply World.ownsRow.alloc) | (with_reducible apply own_drewN) | (with_reducible apply World.ownsRow.drew) | (with_reducible apply own_bl2) | (simp; done) | (simp; omega) | omega)), by (repeat' (first | (with_reducible exact Below.refl _ _) | (with_reducible refine bl_alloc ?_ _) | (with_reducible refine bl_drewN ?_ _) | (with_reducible refine bl_drew ?_) | (with_reducible assumption) | (with_reducible refine bl_to ?_ (by assumption)) | (with_reducible refine Below.trans ?_ (by assumption)) | (with_reducible refine Below.trans ?_ (Below.mono (by assumption) ?_)) | (with_reducible refine bl_set ?_ ?_ _) | (simp; done) | (simp; omega) | omega))⟩
set_option maxHeartbeats 800000 in
theorem eqEntry_any (s : ByteArray) (v1 v2 : Value) (l : List (Int × Int)) (w : World) (h1 : RdN w v1 l) (h2 : RdN w v2 l) (hl : l.length ≤ 1048576) :
    Calls Try.prog 24 #[.agg #[.string s, v1], .agg #[.string s, v2]] w fun e w' => e = .returned (.bool true) ∧ Below w.heap.size w w' := by
  go_enter Try.func24, Try.ntmps24
  go_wp2_with (go_at_call 48; refine (eqNoteS_any _ _ l _ (h1.bl (by (repeat' (first | (with_reducible exact Below.refl _ _) | (with_reducible refine bl_alloc ?_ _) | (with_reducible refine bl_drewN ?_ _) | (with_reducible refine bl_drew ?_) | (with_reducible assumption) | (with_reducible refine bl_to ?_ (by assumption)) | (with_reducible refine Below.trans ?_ (by assumption)) | (with_reducible refine Below.trans ?_ (Below.mono (by assumption) ?_)) | (with_reducible refine bl_set ?_ ?_ _) | (simp; done) | (simp; omega) | omega)))) (h2.bl (by (repeat' (first | (with_reducible exact Below.refl _ _) | (with_reducible refine bl_alloc ?_ _) | (with_reducible refine bl_drewN ?_ _) | (with_reducible refine bl_drew ?_) | (with_reducible assumption) | (with_reducible refine bl_to ?_ (by assumption)) | (with_reducible refine Below.trans ?_ (by assumption)) | (with_reducible refine Below.trans ?_ (Below.mono (by assumption) ?_)) | (with_reducible refine bl_set ?_ ?_ _) | (simp; done) | (simp; omega) | omega)))) hl).mono ?_; rintro e w1 ⟨rfl, b1⟩; obtain ⟨k1, f1, z1⟩ := bcell b1)
  go_ret
  exact ⟨rfl, by (repeat' (first | (with_reducible exact Below.refl _ _) | (with_reducible refine bl_alloc ?_ _) | (with_reducible refine bl_drewN ?_ _) | (with_reducible refine bl_drew ?_) | (with_reducible assumption) | (with_reducible refine bl_to ?_ (by assumption)) | (with_reducible refine Below.trans ?_ (by assumption)) | (with_reducible refine Below.trans ?_ (Below.mono (by assumption) ?_)) | (with_reducible refine bl_set ?_ ?_ _) | (simp; done) | (simp; omega) | omega))⟩
theorem info_Entry : (Try.prog.info? 41).map (fun i => (i.zero, i.size, i.bytes)) = some (some (.agg #[.string ⟨#[]⟩, .slice none 0 0]), 2, 40) := by kernel_rfl
def zE (n : Nat) : List (ByteArray × Value) := List.replicate n (⟨#[]⟩, .slice none 0 0)
theorem cE_zero (n : Nat) : cE (zE (n + 1)) = [.string ⟨#[]⟩, .slice none 0 0] ++ cE (zE n) := by rw [zE, List.replicate_succ]; rfl
theorem madeE (n : Nat) : (madeCells (Value.agg #[.string ⟨#[]⟩, .slice none 0 0]).cells (n * 2)).toList = cE (zE n) := by
  apply List.ext_getElem?
  intro i
  have hc : ∀ n i, (cE (zE n))[i]? = if i < n * 2 then some (if i % 2 = 0 then Value.string ⟨#[]⟩ else .slice none 0 0) else none := by
    intro n
    induction n with
    | zero => intro i; simp [zE, cE]
    | succ n ih =>
      intro i
      rw [cE_zero]
      match i with
      | 0 => simp
      | 1 => rw [if_pos (by omega)]; simp
      | i + 2 =>
        rw [List.getElem?_append_right (by simp)]
        simp only [List.length_cons, List.length_nil]
        rw [show i + 2 - (0 + 1 + 1) = i by omega, ih]
        by_cases h : i < n * 2
        · rw [if_pos h, show (i + 2) % 2 = i % 2 by omega, if_pos (show i + 2 < (n + 1) * 2 by omega)]
        · rw [if_neg h, if_neg (show ¬ i + 2 < (n + 1) * 2 by omega)]
  rw [hc]
  unfold madeCells
  rcases Nat.lt_or_ge i (n * 2) with h | h
  · rw [if_pos h]
    have h2 : i % 2 = 0 ∨ i % 2 = 1 := by omega
    rcases h2 with h2 | h2 <;> simp [List.getElem?_range h, Value.cells, h, h2]
  · rw [if_neg (by omega), List.getElem?_eq_none (by simpa using h)]

set_option maxHeartbeats 1600000 in
set_option maxRecDepth 100000 in
theorem toEntryS_any (v : Value) (l : List En) (w : World) (h1 : RdE w v l) (hl : l.length + szE l ≤ 1048576) :
    Calls Try.prog 11 #[v] w (NewE l w) := by
  obtain ⟨A1, c1, rfl, _, _⟩ := h1.form
  obtain ⟨i0, hi0, hz0, hz1, hz2⟩ := info_parts info_Entry
  go_enter Try.func11, Try.ntmps11
  go_wp2_with (at_make; refine wpList_make_full _ rfl _ _ _ rfl w.heap.size 41 i0 _ 2 Try.underlying25 hi0 hz0 hz1 _ _ _ _ l.length rfl rfl rfl rfl (by rw [hz2]; omega) (by unfold maxLen; omega) (Nat.le_refl _) ?_; intro w1 own1 g1)
  have own2 : w1.ownsRow w.heap.size 41 2 (.slice (some ⟨w.heap.size, 0, none⟩) l.length l.length) l.length (cE ([] ++ zE (l.length - 0))) := by
    rw [madeE] at own1
    simpa using own1
  have b1 : Below w.heap.size w w1 := (Below.refl _ _).grown g1 (Nat.le_refl _) (by simp)
  have sz1 : w.heap.size < w1.heap.size := (own2.lt _ rfl).2
  clear own1 g1
  go_loopw [4] (fun i wr => ∃ (k : Nat) (t : List (ByteArray × Value)), k ≤ l.length ∧ i = .int .i64 k ∧ Below w.heap.size w wr ∧ OwnT w.heap.size wr.heap.size w.heap.size wr t (l.take k) ∧ wr.ownsRow w.heap.size 41 2 (.slice (some ⟨w.heap.size, 0, none⟩) l.length l.length) l.length (cE (t ++ zE (l.length - k)))) (fun i _ => l.length - (intOf i).toNat)
  case atStart => exact ⟨0, [], Nat.zero_le _, rfl, b1, OwnT.nil _ _ _ _, own2⟩
  case round =>
    obtain ⟨k, t, hk, rfl, bel, ot, ow⟩ := hrel
    by_cases hlt : k < l.length
    · obtain ⟨b, o, vt, rfl, hb, e0, e1, rt⟩ := RdE.at_ (h1.bl bel) hlt
      have hat := szE_at hlt
      have hkt : t.length = k := by rw [ot.len, List.length_take]; omega
      have hln : (t ++ zE (l.length - k)).length = l.length := by simp [zE, hkt]; omega
      have hzz : zE (l.length - k) = (⟨#[]⟩, .slice none 0 0) :: zE (l.length - (k + 1)) := by rw [zE, show l.length - k = (l.length - (k + 1)) + 1 by omega, List.replicate_succ]; rfl
      have hset : ∀ x, (t ++ zE (l.length - k)).set k x = (t ++ [x]) ++ zE (l.length - (k + 1)) := fun x => by
        rw [hzz, List.set_append_right _ _ (by omega), hkt, Nat.sub_self, List.set_cons_zero, List.append_assoc]; rfl
      have htk := take_succ_gE hlt
      have HL := Lib.hid hln
      have HS := Lib.hid hset
      have HT := Lib.hid htk
      have HK := Lib.hid hkt
      clear hln hset htk hkt hzz h1
      have hlt' : (k : Int) < (l.length : Int) := by omega
      have szr : w.heap.size < wr.heap.size := (ow.lt _ rfl).2
      go_wp2_with (go_at_call 22; refine (toEntry_any _ _ (gE l k).2 _ rt (by omega)).mono ?_; rintro e w2 ⟨A2, c2, rfl, on2, b2⟩; have ow2 := own_bl ow b2; have y0 : w2.cell? ⟨w.heap.size, k * 2, none⟩ = some (.string (gT (t ++ zE (l.length - k)) k).1) := (ow2.cellAt _ (by omega)).trans (cE_get0 (by rw [HL.out]; exact hlt)); have y1 : w2.cell? ⟨w.heap.size, k * 2 + 1, none⟩ = some (gT (t ++ zE (l.length - k)) k).2 := (ow2.cellAt _ (by omega)).trans (cE_get1 (by rw [HL.out]; exact hlt)); have frz := fun j => ow2.frozenAt j; have f0 := frz (k * 2); have f1 := frz (k * 2 + 1); clear frz)
      have ow3 := ((ow2.stored (k * 2) (.string (gE l k).1)).1.stored (k * 2 + 1) (.slice A2 (gE l k).2.length c2)).1
      rw [cE_set _ k ((gE l k).1, .slice A2 (gE l k).2.length c2) (by rw [HL.out]; exact hlt), HS.out] at ow3
      have bel3 : Below w.heap.size w ((w2.setCell ⟨w.heap.size, k * 2, none⟩ (.string (gE l k).1)).setCell ⟨w.heap.size, k * 2 + 1, none⟩ (.slice A2 (gE l k).2.length c2)) := bl_set (bl_set (bl_to bel b2) (by simp) _) (by simp) _
      have ot2 := ((ot.bl b2).snoc (hz := w2.heap.size) (s := (gE l k).1) (m := (gE l k).2) (own_lo on2 (by omega)) (fun b hb => by have := on2.lt b hb; omega) b2.size)
      have ot3 := (ot2.setg (k * 2) (.string (gE l k).1)).setg (k * 2 + 1) (.slice A2 (gE l k).2.length c2)
      go_roundw
      case rel => exact ⟨k + 1, _, by omega, by go_num, bel3, by rw [HT.out]; simpa using ot3, ow3⟩
      case measure => simp [intOf]; omega
    · obtain rfl : k = l.length := by omega
      have hd : t ++ zE (l.length - l.length) = t := by simp [zE]
      rw [hd] at ow
      rw [List.take_length] at ot
      clear hd
      have hlt' : ¬ (l.length : Int) < (l.length : Int) := by omega
      go_wp2
      go_ret
      exact ⟨_, _, rfl, ⟨w.heap.size, t, ot, ow, fun b e => by simp [Value.ownBlock] at e; subst e; exact ⟨rfl, (ow.lt _ rfl).2⟩⟩, bel⟩

set_option maxHeartbeats 1600000 in
set_option maxRecDepth 100000 in
theorem eqEntryS_any (v1 v2 : Value) (l : List En) (w : World) (h1 : RdE w v1 l) (h2 : RdE w v2 l) (hl : l.length + szE l ≤ 1048577) :
    Calls Try.prog 13 #[v1, v2] w fun e w' => e = .returned (.bool true) ∧ Below w.heap.size w w' := by
  obtain ⟨A1, c1, rfl, _, _⟩ := h1.form
  obtain ⟨A2, c2, rfl, _, _⟩ := h2.form
  go_enter Try.func13, Try.ntmps13
  go_wp2
  go_loopw [5] (fun i wr => ∃ k : Nat, k ≤ l.length ∧ i = .int .i64 k ∧ Below w.heap.size w wr) (fun i _ => l.length - (intOf i).toNat)
  case atStart => exact ⟨0, Nat.zero_le _, rfl, Below.refl _ _⟩
  case round =>
    obtain ⟨k, hk, rfl, bel⟩ := hrel
    by_cases hlt : k < l.length
    · obtain ⟨b1, o1, x1, rfl, _, e0, e1, r1⟩ := RdE.at_ (h1.bl bel) hlt
      obtain ⟨b2, o2, x2, rfl, _, d0, d1, r2⟩ := RdE.at_ (h2.bl bel) hlt
      have hat := szE_at hlt
      clear h1 h2
      have hlt' : (k : Int) < (l.length : Int) := by omega
      go_wp2
      go_still_tail 8, (by kernel_rfl)
      change wpList _ _ _ _ _ wr.drew
      have bel' := bl_drew bel
      have r1 := r1.bl (bl_drew (Below.refl _ _))
      have r2 := r2.bl (bl_drew (Below.refl _ _))
      clear bel
      clear e0 d0 e1 d1
      generalize wr.drew = w2 at *
      go_wp2_with (go_at_call 24; refine (eqEntry_any _ _ _ (gE l k).2 _ r1 r2 (by omega)).mono ?_; rintro e w3 ⟨rfl, b3⟩)
      go_roundw
      case rel => exact ⟨k + 1, by omega, by go_num, bl_to bel' b3⟩
      case measure => simp [intOf]; omega
    · go_wp2
      go_ret
      exact ⟨rfl, bel⟩
end Go.Proofs.Ytighmoedkknkoaa
