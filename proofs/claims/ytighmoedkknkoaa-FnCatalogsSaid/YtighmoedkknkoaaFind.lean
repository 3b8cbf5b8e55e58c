/- FindEntry of the program and of the reference return the same; sizes up to 2^20. -/
import Derived.Test.YtighmoedkknkoaaCatalog
namespace Go.Proofs.Ytighmoedkknkoaa
open Go.RowKit Go.Sort

/-- entry k has this name -/
def nmB (l : List En) (s : ByteArray) (k : Nat) : Bool := (gE l k).1.toList == s.toList
/-- the first of the first k entries that has this name -/
def fndN (l : List En) (s : ByteArray) : Nat → Int
  | 0 => -1
  | k + 1 => if 0 ≤ fndN l s k then fndN l s k else if nmB l s k then (k : Int) else -1
def fndF (l : List En) (s : ByteArray) : Int := if catB l then fndN l s l.length else -1
theorem fndN_bd (l : List En) (s : ByteArray) (k : Nat) : -1 ≤ fndN l s k ∧ fndN l s k < k := by
  induction k with
  | zero => simp [fndN]
  | succ k ih =>
    rw [fndN]
    split
    · omega
    · split <;> omega
theorem fndN_more {l : List En} {s : ByteArray} {k n : Nat} (h : 0 ≤ fndN l s k) (hn : k ≤ n) : fndN l s n = fndN l s k := by
  induction n with
  | zero => rw [show k = 0 by omega]
  | succ n ih =>
    by_cases e : k = n + 1
    · rw [e]
    · rw [fndN, ih (by omega), if_pos h]
theorem fndN_hit {l : List En} {s : ByteArray} {k n : Nat} (h : fndN l s k = -1) (hb : nmB l s k = true) (hn : k < n) : fndN l s n = (k : Int) := by
  have e : fndN l s (k + 1) = (k : Int) := by rw [fndN, h, if_neg (by omega), if_pos hb]
  rw [fndN_more (k := k + 1) (by omega) (by omega), e]
theorem fndN_miss {l : List En} {s : ByteArray} {k : Nat} (h : fndN l s k = -1) (hb : nmB l s k = false) : fndN l s (k + 1) = -1 := by
  rw [fndN, h, if_neg (by omega), hb]; rfl

set_option maxHeartbeats 1600000 in
set_option maxRecDepth 100000 in
theorem findI_any (v : Value) (s : ByteArray) (l : List En) (w : World) (h1 : RdE w v l) (hl : l.length + szE l ≤ 1048576) :
    Calls Try.prog 15 #[v, .string s] w fun e w' => e = .returned (.int .i64 (fndF l s)) ∧ Below w.heap.size w w' := by
  obtain ⟨A1, c1, rfl, _, hm⟩ := h1.form
  unfold maxLen at hm
  cases hc : catB l
  · have cc := catalogI_ok _ l w h1 (by omega)
    rw [hc] at cc
    have HF := Lib.hid (show fndF l s = -1 by simp [fndF, hc])
    clear hc
    go_enter Try.func15, Try.ntmps15
    go_wp2_with fail
    refine cc.mono ?_
    rintro e w1 ⟨rfl, b1⟩
    go_wp2
    go_ret
    exact ⟨ret_int HF.out.symm, b1⟩
  have cc := catalogI_ok _ l w h1 (by omega)
  rw [hc] at cc
  have HF := Lib.hid (show fndF l s = fndN l s l.length by simp [fndF, hc])
  clear hc
  go_enter Try.func15, Try.ntmps15
  go_wp2_with fail
  refine cc.mono ?_
  rintro e w1 ⟨rfl, b1⟩
  have h2 := h1.bl b1
  clear cc h1
  go_wp2
  go_loopw [12] (fun i wr => ∃ k : Nat, k ≤ l.length ∧ i = .int .i64 k ∧ fndN l s k = -1 ∧ Below w.heap.size w wr ∧ Below w1.heap.size w1 wr) (fun i _ => l.length - (intOf i).toNat)
  case atStart => exact ⟨0, Nat.zero_le _, rfl, rfl, b1, Below.refl _ _⟩
  case round =>
    obtain ⟨k, hk, rfl, ha, bel, bel1⟩ := hrel
    have HA := Lib.hid ha
    clear ha b1
    by_cases hlt : k < l.length
    · obtain ⟨b, o, vt, rfl, hb, e0, e1, rt⟩ := RdE.at_ (h2.bl bel1) hlt
      obtain ⟨Av, cv, rfl, _, _⟩ := rt.form
      have hlt' : (k : Int) < (l.length : Int) := by omega
      cases hq : nmB l s k
      · have hj := Lib.hid (fndN_miss HA.out hq)
        have hq' : ((gE l k).1.toList == s.toList) = false := hq
        clear h2 rt hq
        go_wp2
        go_roundw
        case rel => exact ⟨k + 1, by omega, by go_num, hj.out, by (repeat' (first | (with_reducible exact Below.refl _ _) | (with_reducible refine bl_alloc ?_ _) | (with_reducible refine bl_drewN ?_ _) | (with_reducible refine bl_drew ?_) | (with_reducible assumption) | (with_reducible refine bl_to ?_ (by assumption)) | (with_reducible refine Below.trans ?_ (by assumption)) | (with_reducible refine Below.trans ?_ (Below.mono (by assumption) ?_)) | (with_reducible refine bl_set ?_ ?_ _) | (simp; done) | (simp; omega) | omega)), by (repeat' (first | (with_reducible exact Below.refl _ _) | (with_reducible refine bl_alloc ?_ _) | (with_reducible refine bl_drewN ?_ _) | (with_reducible refine bl_drew ?_) | (with_reducible assumption) | (with_reducible refine bl_to ?_ (by assumption)) | (with_reducible refine Below.trans ?_ (by assumption)) | (with_reducible refine Below.trans ?_ (Below.mono (by assumption) ?_)) | (with_reducible refine bl_set ?_ ?_ _) | (simp; done) | (simp; omega) | omega))⟩
        case measure => simp [intOf]; omega
      · have hj := Lib.hid (fndN_hit HA.out hq hlt)
        have hq' : ((gE l k).1.toList == s.toList) = true := hq
        have hq2 : (gE l k).1.toList = s.toList := by simpa using hq'
        clear h2 rt hq
        go_wp2
        go_ret
        exact ⟨ret_int (by rw [HF.out, hj.out]), by (repeat' (first | (with_reducible exact Below.refl _ _) | (with_reducible refine bl_alloc ?_ _) | (with_reducible refine bl_drewN ?_ _) | (with_reducible refine bl_drew ?_) | (with_reducible assumption) | (with_reducible refine bl_to ?_ (by assumption)) | (with_reducible refine Below.trans ?_ (by assumption)) | (with_reducible refine Below.trans ?_ (Below.mono (by assumption) ?_)) | (with_reducible refine bl_set ?_ ?_ _) | (simp; done) | (simp; omega) | omega))⟩
    · obtain rfl : k = l.length := by omega
      have hlt' : ¬ (l.length : Int) < (l.length : Int) := by omega
      go_wp2
      go_ret
      exact ⟨ret_int (by rw [HF.out, HA.out]), bel⟩

set_option maxHeartbeats 1600000 in
set_option maxRecDepth 100000 in
theorem findS_any (v : Value) (s : ByteArray) (l : List En) (w : World) (h1 : RdE w v l) (hl : l.length + szE l ≤ 1048576) :
    Calls Try.prog 14 #[v, .string s] w fun e w' => e = .returned (.int .i64 (fndF l s)) ∧ Below w.heap.size w w' := by
  obtain ⟨A1, c1, rfl, _, hm⟩ := h1.form
  unfold maxLen at hm
  have cc := fun W (h : RdE W (.slice A1 l.length c1) l) => catalogS_ok _ l W h (by omega)
  cases hc : catB l
  · rw [hc] at cc
    have CC := Lib.hid cc
    have HF := Lib.hid (show fndF l s = -1 by simp [fndF, hc])
    clear hc cc
    by_cases h0 : 0 < l.length
    · have h0' : (0 : Int) < (l.length : Int) := by omega
      have h0d : decide (0 < l.length) = true := by simpa using h0
      go_enter Try.func14, Try.ntmps14
      go_wp2
      go_loopw [5] (fun i wr => i = .int .i64 0 ∧ wr = w) (fun i _ => 0)
      case atStart => exact ⟨rfl, rfl⟩
      case round =>
        obtain ⟨rfl, rfl⟩ := hrel
        go_wp2_with (go_at_call 10; refine (CC.out _ h1).mono ?_; rintro e w1 ⟨rfl, b1⟩; obtain ⟨k1, f1, z1⟩ := bcell b1)
        go_ret
        exact ⟨ret_int HF.out.symm, b1⟩
    · have h0' : ¬ (0 : Int) < (l.length : Int) := by omega
      have h0d : decide (0 < l.length) = false := by simpa using h0
      go_enter Try.func14, Try.ntmps14
      go_wp2
      go_loopw [5] (fun i wr => i = .int .i64 0 ∧ wr = w) (fun i _ => 0)
      case atStart => exact ⟨rfl, rfl⟩
      case round =>
        obtain ⟨rfl, rfl⟩ := hrel
        go_wp2_with (go_at_call 10; refine (CC.out _ h1).mono ?_; rintro e w1 ⟨rfl, b1⟩; obtain ⟨k1, f1, z1⟩ := bcell b1)
        go_ret
        exact ⟨ret_int HF.out.symm, by (repeat' (first | (with_reducible exact Below.refl _ _) | (with_reducible refine bl_alloc ?_ _) | (with_reducible refine bl_drewN ?_ _) | (with_reducible refine bl_drew ?_) | (with_reducible assumption) | (with_reducible refine bl_to ?_ (by assumption)) | (with_reducible refine Below.trans ?_ (by assumption)) | (with_reducible refine Below.trans ?_ (Below.mono (by assumption) ?_)) | (with_reducible refine bl_set ?_ ?_ _) | (simp; done) | (simp; omega) | omega))⟩
  rw [hc] at cc
  have CC := Lib.hid cc
  have HF := Lib.hid (show fndF l s = fndN l s l.length by simp [fndF, hc])
  clear hc cc
  go_enter Try.func14, Try.ntmps14
  go_wp2
  go_loopw [5] (fun i wr => ∃ k : Nat, k ≤ l.length ∧ i = .int .i64 k ∧ fndN l s k = -1 ∧ Below w.heap.size w wr) (fun i _ => l.length - (intOf i).toNat)
  case atStart => exact ⟨0, Nat.zero_le _, rfl, rfl, Below.refl _ _⟩
  case round =>
    obtain ⟨k, hk, rfl, ha, bel⟩ := hrel
    have HA := Lib.hid ha
    clear ha
    have h2 := h1.bl bel
    by_cases hlt : k < l.length
    · have hlt' : (k : Int) < (l.length : Int) := by omega
      have hld : decide (k < l.length) = true := by simpa using hlt
      obtain ⟨b, o, vt, hA, hb, e0, e1, rt⟩ := RdE.at_ h2 hlt
      subst hA
      cases hq : nmB l s k
      · have hj := Lib.hid (fndN_miss HA.out hq)
        have hq' : ((gE l k).1.toList == s.toList) = false := hq
        clear h1 rt hq e1
        go_wp2_with ((go_at_call 10; refine (CC.out _ h2).mono ?_; rintro e w1 ⟨rfl, b1⟩; obtain ⟨k1, f1, z1⟩ := bcell b1); have e0' := (b1.cell (p := ⟨b, o + k * 2, none⟩) hb).trans e0)
        go_roundw
        case rel => exact ⟨k + 1, by omega, by go_num, hj.out, by (repeat' (first | (with_reducible exact Below.refl _ _) | (with_reducible refine bl_alloc ?_ _) | (with_reducible refine bl_drewN ?_ _) | (with_reducible refine bl_drew ?_) | (with_reducible assumption) | (with_reducible refine bl_to ?_ (by assumption)) | (with_reducible refine Below.trans ?_ (by assumption)) | (with_reducible refine Below.trans ?_ (Below.mono (by assumption) ?_)) | (with_reducible refine bl_set ?_ ?_ _) | (simp; done) | (simp; omega) | omega))⟩
        case measure => simp [intOf]; omega
      · have hj := Lib.hid (fndN_hit HA.out hq hlt)
        have hq' : ((gE l k).1.toList == s.toList) = true := hq
        have hq2 : (gE l k).1.toList = s.toList := by simpa using hq'
        clear h1 rt hq e1
        go_wp2_with ((go_at_call 10; refine (CC.out _ h2).mono ?_; rintro e w1 ⟨rfl, b1⟩; obtain ⟨k1, f1, z1⟩ := bcell b1); have e0' := (b1.cell (p := ⟨b, o + k * 2, none⟩) hb).trans e0)
        go_ret
        exact ⟨ret_int (by rw [HF.out, hj.out]), by (repeat' (first | (with_reducible exact Below.refl _ _) | (with_reducible refine bl_alloc ?_ _) | (with_reducible refine bl_drewN ?_ _) | (with_reducible refine bl_drew ?_) | (with_reducible assumption) | (with_reducible refine bl_to ?_ (by assumption)) | (with_reducible refine Below.trans ?_ (by assumption)) | (with_reducible refine Below.trans ?_ (Below.mono (by assumption) ?_)) | (with_reducible refine bl_set ?_ ?_ _) | (simp; done) | (simp; omega) | omega))⟩
    · obtain rfl : k = l.length := by omega
      have hlt' : ¬ (l.length : Int) < (l.length : Int) := by omega
      have hld : decide (l.length < l.length) = false := by simp
      go_wp2_with (go_at_call 10; refine (CC.out _ h2).mono ?_; rintro e w1 ⟨rfl, b1⟩; obtain ⟨k1, f1, z1⟩ := bcell b1)
      go_ret
      exact ⟨ret_int (by rw [HF.out, HA.out]), by (repeat' (first | (with_reducible exact Below.refl _ _) | (with_reducible refine bl_alloc ?_ _) | (with_reducible refine bl_drewN ?_ _) | (with_reducible refine bl_drew ?_) | (with_reducible assumption) | (with_reducible refine bl_to ?_ (by assumption)) | (with_reducible refine Below.trans ?_ (by assumption)) | (with_reducible refine Below.trans ?_ (Below.mono (by assumption) ?_)) | (with_reducible refine bl_set ?_ ?_ _) | (simp; done) | (simp; omega) | omega))⟩
end Go.Proofs.Ytighmoedkknkoaa
