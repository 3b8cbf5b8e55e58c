/- NoteText of the program and of the reference; no condition (but the table of powers, for the program's). -/
import Derived.Test.YthgllpocljeegaaGreatDoorFmt
import Derived.Test.YthgllpocljeegaaGreatDoorData
import Derived.Test.YthgllpocljeegaaGreatDoorItoaShelf
import Derived.Test.YthgllpocljeegaaGreatDoorQB
import Derived.Lib.AppendIntMem
import Derived.Deep.DeepCutAuto
namespace Go.Proofs.YthgllpocljeegaaGreatDoor
open Go.RowKit Go.Sort

theorem fmtT_size {n : Nat} (h : n ≤ 4000000000) : (fmtT n).size ≤ 10 := by
  by_cases h0 : n = 0
  · subst h0; rw [fmtT_zero]; decide
  · rw [fmtT_digT n h0]; exact digT_size 10 n (by omega)
/-- the table of powers, at w and at every later world -/
def Tab10 (w : World) : Prop := ∀ W, Below w.heap.size w W → Lib.TabIs Tryz.prog W "internal/strconv.uint64pow10" .u64 Lib.pow10Tab
theorem Tab10.bl {w W : World} (h : Tab10 w) (b : Below w.heap.size w W) : Tab10 W := fun W' b' => h W' (bl_to b b')
set_option maxHeartbeats 800000 in
theorem fmtI_any (k : Nat) (w : World) (h1 : k ≤ 4000000000) (tab : Tab10 w) : Calls Tryz.prog 26 #[.int .i64 k] w fun e w' => e = .returned (.string (fmtT k)) ∧ Below w.heap.size w w' := by
  have hc := Tryz.strconv_Itoa (k : Int) (by omega) (by omega) w (tab w (Below.refl _ _))
  rw [Lib.itoa_nonneg] at hc
  go_enter Tryz.func26, Tryz.ntmps26
  go_wp2_with fail
  refine hc.mono ?_
  rintro e w1 ⟨rfl, n, os, rfl⟩
  go_wp2
  go_ret
  exact ⟨rfl, Lib.below_grow _ w (Nat.le_refl _) n os⟩
def ntT (t p : Int) : ByteArray := if inB t 0 1000 && inB p 0 60 then fmtT t.toNat ++ ⟨#[58]⟩ ++ fmtT p.toNat else ⟨#[]⟩
set_option maxHeartbeats 3200000 in
set_option maxRecDepth 100000 in
theorem ntI_any (t p : Int) (w : World) (tab : Tab10 w) : Calls Tryz.prog 12 #[.agg #[.int .i64 t, .int .i64 p]] w fun e w' => e = .returned (.string (ntT t p)) ∧ Below w.heap.size w w' := by
  cases h1 : inB t 0 1000
  · go_enter Tryz.func12, Tryz.ntmps12
    go_wp2_with (go_at_call 22; refine (within_any _ _ _ _).mono ?_; rintro e w' ⟨rfl, rfl⟩)
    go_ret
    exact ⟨by simp [ntT, h1], by (repeat' (first | (with_reducible exact Below.refl _ _) | (with_reducible refine bl_alloc ?_ _) | (with_reducible refine bl_drewN ?_ _) | (with_reducible refine bl_drew ?_) | (with_reducible assumption) | (with_reducible refine bl_to ?_ (by assumption)) | (with_reducible refine Below.trans ?_ (by assumption)) | (with_reducible refine Below.trans ?_ (Below.mono (by assumption) ?_)) | (with_reducible refine bl_set ?_ ?_ _) | (simp; done) | (simp; omega) | omega))⟩
  cases h2 : inB p 0 60
  · go_enter Tryz.func12, Tryz.ntmps12
    go_wp2_with (go_at_call 22; refine (within_any _ _ _ _).mono ?_; rintro e w' ⟨rfl, rfl⟩)
    go_ret
    exact ⟨by simp [ntT, h1, h2], by (repeat' (first | (with_reducible exact Below.refl _ _) | (with_reducible refine bl_alloc ?_ _) | (with_reducible refine bl_drewN ?_ _) | (with_reducible refine bl_drew ?_) | (with_reducible assumption) | (with_reducible refine bl_to ?_ (by assumption)) | (with_reducible refine Below.trans ?_ (by assumption)) | (with_reducible refine Below.trans ?_ (Below.mono (by assumption) ?_)) | (with_reducible refine bl_set ?_ ?_ _) | (simp; done) | (simp; omega) | omega))⟩
  obtain ⟨a1, a2⟩ := inB_iff.1 h1
  obtain ⟨b1, b2⟩ := inB_iff.1 h2
  have hN : ntT t p = fmtT t.toNat ++ ⟨#[58]⟩ ++ fmtT p.toNat := by simp [ntT, h1, h2]
  rw [hN]
  obtain ⟨tn, rfl⟩ := Int.eq_ofNat_of_zero_le a1
  obtain ⟨pn, rfl⟩ := Int.eq_ofNat_of_zero_le b1
  have c1 := fun W tb => fmtI_any tn W (by omega) tb
  have c2 := fun W tb => fmtI_any pn W (by omega) tb
  have s1 := fmtT_size (n := tn) (by omega)
  have s2 := fmtT_size (n := pn) (by omega)
  rw [Int.toNat_natCast, Int.toNat_natCast]
  generalize fmtT tn = T1 at *
  generalize fmtT pn = T2 at *
  have C1 := Lib.hid c1
  have C2 := Lib.hid c2
  have q0 : (w.alloc (Obj.cells #[.int .i64 (tn : Int), .int .i64 (pn : Int)] 38)).cell? ⟨w.heap.size, 0, none⟩ = some (.int .i64 (tn : Int)) := by simp [go_sem]
  have q1 : (w.alloc (Obj.cells #[.int .i64 (tn : Int), .int .i64 (pn : Int)] 38)).cell? ⟨w.heap.size, 1, none⟩ = some (.int .i64 (pn : Int)) := by simp [go_sem]
  have bl0 := bl_alloc (Below.refl w.heap.size w) (Obj.cells #[.int .i64 (tn : Int), .int .i64 (pn : Int)] 38)
  have hb : w.heap.size < (w.alloc (Obj.cells #[.int .i64 (tn : Int), .int .i64 (pn : Int)] 38)).heap.size := by simp
  have tab1 := tab.bl bl0
  clear c1 c2 hN
  go_enter Tryz.func12, Tryz.ntmps12
  go_upto_region 3 with (go_at_call 22; refine (within_any _ _ _ _).mono ?_; rintro e w' ⟨rfl, rfl⟩)
  generalize w.alloc (Obj.cells #[.int .i64 (tn : Int), .int .i64 (pn : Int)] 38) = w1 at *
  have Q0 := cell_regrown q0
  have Q1 := cell_regrown q1
  (refine wp_region_quiet_below (by kernel_rfl) (by kernel_rfl) ?_; (repeat (first | go_big_quiet_skip | (go_big_quiet_want; go_big_quiet_op; (first | go_big_quiet_on | (apply Exists.intro; refine ⟨fun _ => ?_, ?_⟩; (focus (first | (go_at_call 26; with_reducible exact Calls.regrown_of (C1.out _ (tab1.bl (below_regrown _ _ _)))) | (go_at_call 26; with_reducible exact Calls.regrown_of (C2.out _ (tab1.bl (below_regrown _ _ _)))) | fail)); go_big_quiet_on))))); refine wpQuiet_nil ?_; (intro wq hwq; have bq := rg_below hwq; clear hwq))
  go_wp2
  go_ret
  exact ⟨rfl, bl_to bl0 bq⟩
end Go.Proofs.YthgllpocljeegaaGreatDoor
