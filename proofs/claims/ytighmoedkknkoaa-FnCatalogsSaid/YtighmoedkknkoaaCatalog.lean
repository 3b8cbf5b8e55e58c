/- CatalogOk of the program and of the reference return the same; sizes up to 2^20. -/
import Derived.Test.YtighmoedkknkoaaStEntry
import Derived.Test.YtighmoedkknkoaaTune
import Derived.Test.YtighmoedkknkoaaName
import Derived.Deep.DeepCutAuto
import Derived.Test.YtighmoedkknkoaaQB
namespace Go.Proofs.Ytighmoedkknkoaa
open Go.RowKit Go.Sort

/-- a's bytes lie ahead of b's -/
def ltS (a b : ByteArray) : Bool := Op.bytesLess a.toList b.toList
/-- entry k is good, and its name lies behind the one before it -/
def enB (l : List En) (k : Nat) : Bool := nameB (gE l k).1 && tuneB (gE l k).2 && (decide (k = 0) || ltS (gE l (k - 1)).1 (gE l k).1)
def okC (l : List En) : Nat → Bool
  | 0 => true
  | k + 1 => okC l k && enB l k
def catB (l : List En) : Bool := decide (l.length ≤ 20) && okC l l.length
theorem okC_at {l : List En} {n k : Nat} (h : okC l n = true) (hk : k < n) : enB l k = true := by
  induction n with
  | zero => omega
  | succ n ih =>
    rw [okC, Bool.and_eq_true] at h
    by_cases e : k = n
    · rw [e]; exact h.2
    · exact ih h.1 (by omega)
theorem okC_no {l : List En} {n k : Nat} (hk : k < n) (h : enB l k = false) : okC l n = false := by
  cases ho : okC l n with
  | false => rfl
  | true => rw [okC_at ho hk] at h; cases h
theorem okC_all {l : List En} {n : Nat} (h : ∀ k, k < n → enB l k = true) : okC l n = true := by
  induction n with
  | zero => rfl
  | succ n ih => rw [okC, ih (fun k hk => h k (by omega)), h n (by omega)]; rfl

set_option maxHeartbeats 1600000 in
set_option maxRecDepth 100000 in
theorem catalogI_ok (v : Value) (l : List En) (w : World) (h1 : RdE w v l) (hl : l.length + szE l ≤ 1048577) :
    Calls Try.prog 12 #[v] w fun e w' => e = .returned (.bool (catB l)) ∧ Below w.heap.size w w' := by
  obtain ⟨A1, c1, rfl, _, hm⟩ := h1.form
  unfold maxLen at hm
  by_cases h8 : l.length ≤ 20
  rotate_left
  · have h8b : decide (20 < (l.length : Int)) = true := by simp; omega
    go_enter Try.func12, Try.ntmps12
    go_wp2
    go_ret
    exact ⟨ret_bool (by simp [catB, h8]), Below.refl _ _⟩
  have h8b : decide (20 < (l.length : Int)) = false := by simp; omega
  go_enter Try.func12, Try.ntmps12
  go_wp2
  go_loopw [10] (fun i wr => ∃ k : Nat, k ≤ l.length ∧ i = .int .i64 k ∧ okC l k = true ∧ Below w.heap.size w wr) (fun i _ => l.length - (intOf i).toNat)
  case atStart => exact ⟨0, Nat.zero_le _, rfl, rfl, Below.refl _ _⟩
  case round =>
    obtain ⟨k, hk, rfl, ha, bel⟩ := hrel
    have HA := Lib.hid ha
    clear ha h8b
    by_cases hlt : k < l.length
    · obtain ⟨b, o, vt, rfl, hb, e0, e1, rt⟩ := RdE.at_ (h1.bl bel) hlt
      obtain ⟨Av, cv, rfl, _, _⟩ := rt.form
      obtain ⟨vn, hvn⟩ : ∃ n, (gE l k).2.length = n := ⟨_, rfl⟩
      rw [hvn] at e1 rt
      have hat := szE_at hlt
      have hlt' : (k : Int) < (l.length : Int) := by omega
      have ba := bl_alloc (Below.refl _ wr) (.cells #[.string (gE l k).1, .slice Av vn cv] 41)
      have bel2 := bl_to bel ba
      have q0 : (wr.alloc (.cells #[.string (gE l k).1, .slice Av vn cv] 41)).cell? ⟨wr.heap.size, 0, none⟩ = some (.string (gE l k).1) := by simp [go_sem]
      have q1 : (wr.alloc (.cells #[.string (gE l k).1, .slice Av vn cv] 41)).cell? ⟨wr.heap.size, 1, none⟩ = some (.slice Av vn cv) := by simp [go_sem]
      have q9 : wr.heap.size < (wr.alloc (.cells #[.string (gE l k).1, .slice Av vn cv] 41)).heap.size := by simp
      have rt2 := rt.bl ba
      have h2 := (h1.bl bel).bl ba
      go_upto_region 6 with (fail)
      clear ba e0 e1 rt h1 hb bel
      generalize hB : wr.heap.size = B at *
      generalize wr.alloc (.cells #[.string (gE l k).1, .slice Av vn cv] 41) = w2 at *
      clear hB
      go_cut [39] (fun s wx => s = .bool (!enB l k) ∧ Below w2.heap.size w2 wx)
      case first =>
        have cn := fun W => nameI_any (gE l k).1 W (by omega)
        have ct := fun W (h : RdN W (.slice Av vn cv) (gE l k).2) => tuneI_ok (.slice Av vn cv) (gE l k).2 W h (by omega)
        have g0 := cell_regrown q0
        have g1 := cell_regrown q1
        cases hn : nameB (gE l k).1
        · rw [hn] at cn
          have CN := Lib.hid cn
          have HE := Lib.hid (show enB l k = false by simp [enB, hn])
          clear cn ct hn h2 q0 q1
          (refine wp_region_quiet_below (by kernel_rfl) (by kernel_rfl) ?_; (repeat (first | go_big_quiet_skip | (go_big_quiet_want; go_big_quiet_op; (first | go_big_quiet_on | (apply Exists.intro; refine ⟨fun _ => ?_, ?_⟩; (focus (first | (go_at_call 34; exact rg_same (CN.out _)) | fail)); go_big_quiet_on))))); refine wpQuiet_nil ?_; (intro wq hwq; have bq := rg_below hwq; clear hwq))
          go_wp2; go_meet
          exact ⟨by rw [HE.out]; rfl, by (repeat' (first | (with_reducible exact Below.refl _ _) | (with_reducible refine bl_alloc ?_ _) | (with_reducible refine bl_drewN ?_ _) | (with_reducible refine bl_drew ?_) | (with_reducible assumption) | (with_reducible refine bl_to ?_ (by assumption)) | (with_reducible refine Below.trans ?_ (by assumption)) | (with_reducible refine Below.trans ?_ (Below.mono (by assumption) ?_)) | (with_reducible refine bl_set ?_ ?_ _) | (simp; done) | (simp; omega) | omega))⟩
        rw [hn] at cn
        have CN := Lib.hid cn
        cases htn : tuneB (gE l k).2
        · rw [htn] at ct
          have CT := Lib.hid ct
          have HE := Lib.hid (show enB l k = false by simp [enB, htn])
          clear cn ct hn htn h2 q0 q1
          (refine wp_region_quiet_below (by kernel_rfl) (by kernel_rfl) ?_; (repeat (first | go_big_quiet_skip | (go_big_quiet_want; go_big_quiet_op; (first | go_big_quiet_on | (apply Exists.intro; refine ⟨fun _ => ?_, ?_⟩; (focus (first | (go_at_call 34; exact rg_same (CN.out _)) | (go_at_call 39; exact Calls.regrown_of (CT.out _ (rt2.bl (below_regrown _ _ _)))) | fail)); go_big_quiet_on))))); refine wpQuiet_nil ?_; (intro wq hwq; have bq := rg_below hwq; clear hwq))
          go_wp2; go_meet
          exact ⟨by rw [HE.out]; rfl, by (repeat' (first | (with_reducible exact Below.refl _ _) | (with_reducible refine bl_alloc ?_ _) | (with_reducible refine bl_drewN ?_ _) | (with_reducible refine bl_drew ?_) | (with_reducible assumption) | (with_reducible refine bl_to ?_ (by assumption)) | (with_reducible refine Below.trans ?_ (by assumption)) | (with_reducible refine Below.trans ?_ (Below.mono (by assumption) ?_)) | (with_reducible refine bl_set ?_ ?_ _) | (simp; done) | (simp; omega) | omega))⟩
        rw [htn] at ct
        have CT := Lib.hid ct
        by_cases hz : k = 0
        · have hzd : decide (0 < k) = false := by simp [hz]
          have HE := Lib.hid (show enB l k = true by subst hz; simp [enB, htn, hn])
          clear cn ct hn htn h2 hz q0 q1
          (refine wp_region_quiet_below (by kernel_rfl) (by kernel_rfl) ?_; (repeat (first | go_big_quiet_skip | (go_big_quiet_want; go_big_quiet_op; (first | go_big_quiet_on | (apply Exists.intro; refine ⟨fun _ => ?_, ?_⟩; (focus (first | (go_at_call 34; exact rg_same (CN.out _)) | (go_at_call 39; exact Calls.regrown_of (CT.out _ (rt2.bl (below_regrown _ _ _)))) | fail)); go_big_quiet_on))))); refine wpQuiet_nil ?_; (intro wq hwq; have bq := rg_below hwq; clear hwq))
          go_wp2; go_meet
          exact ⟨by rw [HE.out]; rfl, by (repeat' (first | (with_reducible exact Below.refl _ _) | (with_reducible refine bl_alloc ?_ _) | (with_reducible refine bl_drewN ?_ _) | (with_reducible refine bl_drew ?_) | (with_reducible assumption) | (with_reducible refine bl_to ?_ (by assumption)) | (with_reducible refine Below.trans ?_ (by assumption)) | (with_reducible refine Below.trans ?_ (Below.mono (by assumption) ?_)) | (with_reducible refine bl_set ?_ ?_ _) | (simp; done) | (simp; omega) | omega))⟩
        · have hzd : decide (0 < k) = true := by simp; omega
          have hze : 0 < k := by omega
          have kt : ((k : Int) - 1).toNat = k - 1 := by omega
          have k0 : (0 : Int) ≤ (k : Int) - 1 := by omega
          have k1 : (k : Int) - 1 < (l.length : Int) := by omega
          have k2 : (1 : Int) ≤ (k : Int) := by omega
          obtain ⟨b', o', vp, hbo, hb2, d0, _, _⟩ := RdE.at_ h2 (k := k - 1) (by omega)
          obtain ⟨rfl, rfl⟩ : b = b' ∧ o = o' := by simpa using hbo
          have g2 := cell_regrown d0
          cases hc : Op.bytesLess (gE l (k - 1)).1.toList (gE l k).1.toList
          · have HE := Lib.hid (show enB l k = false by simp [enB, ltS, htn, hn, hc]; omega)
            clear cn ct hn htn h2 hz hbo q0 q1 d0
            have kw : IntKind.i64.wrap ((k : Int) - 1) = (k : Int) - 1 := IntWalk.i64_in _ (by omega)
            (refine wp_region_quiet_below (by kernel_rfl) (by kernel_rfl) ?_; (repeat (first | go_big_quiet_skip | (go_big_quiet_want; go_big_quiet_op; (first | go_big_quiet_on | (apply Exists.intro; refine ⟨fun _ => ?_, ?_⟩; (focus (first | (go_at_call 34; exact rg_same (CN.out _)) | (go_at_call 39; exact Calls.regrown_of (CT.out _ (rt2.bl (below_regrown _ _ _)))) | fail)); go_big_quiet_on))))); refine wpQuiet_nil ?_; (intro wq hwq; have bq := rg_below hwq; clear hwq))
            go_wp2; go_meet
            exact ⟨by rw [HE.out]; rfl, by (repeat' (first | (with_reducible exact Below.refl _ _) | (with_reducible refine bl_alloc ?_ _) | (with_reducible refine bl_drewN ?_ _) | (with_reducible refine bl_drew ?_) | (with_reducible assumption) | (with_reducible refine bl_to ?_ (by assumption)) | (with_reducible refine Below.trans ?_ (by assumption)) | (with_reducible refine Below.trans ?_ (Below.mono (by assumption) ?_)) | (with_reducible refine bl_set ?_ ?_ _) | (simp; done) | (simp; omega) | omega))⟩
          · have HE := Lib.hid (show enB l k = true by simp [enB, ltS, htn, hn, hc])
            clear cn ct hn htn h2 hz hbo q0 q1 d0
            have kw : IntKind.i64.wrap ((k : Int) - 1) = (k : Int) - 1 := IntWalk.i64_in _ (by omega)
            (refine wp_region_quiet_below (by kernel_rfl) (by kernel_rfl) ?_; (repeat (first | go_big_quiet_skip | (go_big_quiet_want; go_big_quiet_op; (first | go_big_quiet_on | (apply Exists.intro; refine ⟨fun _ => ?_, ?_⟩; (focus (first | (go_at_call 34; exact rg_same (CN.out _)) | (go_at_call 39; exact Calls.regrown_of (CT.out _ (rt2.bl (below_regrown _ _ _)))) | fail)); go_big_quiet_on))))); refine wpQuiet_nil ?_; (intro wq hwq; have bq := rg_below hwq; clear hwq))
            go_wp2; go_meet
            exact ⟨by rw [HE.out]; rfl, by (repeat' (first | (with_reducible exact Below.refl _ _) | (with_reducible refine bl_alloc ?_ _) | (with_reducible refine bl_drewN ?_ _) | (with_reducible refine bl_drew ?_) | (with_reducible assumption) | (with_reducible refine bl_to ?_ (by assumption)) | (with_reducible refine Below.trans ?_ (by assumption)) | (with_reducible refine Below.trans ?_ (Below.mono (by assumption) ?_)) | (with_reducible refine bl_set ?_ ?_ _) | (simp; done) | (simp; omega) | omega))⟩
      case rest =>
        obtain ⟨rfl, bq⟩ := hcut
        obtain ⟨w7, rfl⟩ : ∃ x : World, x = wc := ⟨_, rfl⟩
        have bel3 := bl_to bel2 bq
        clear bel2 bq rt2 h2 q0 q1 q9
        cases he : enB l k
        · have hj := Lib.hid (okC_no hlt he)
          go_wp2
          go_ret
          exact ⟨ret_bool (by simp [catB, hj.out]), bel3⟩
        · have hj := Lib.hid (show okC l (k + 1) = true by rw [okC, HA.out, he]; rfl)
          go_wp2
          go_roundw
          case rel => exact ⟨k + 1, by omega, by go_num, hj.out, bel3⟩
          case measure => simp [intOf]; omega
    · obtain rfl : k = l.length := by omega
      go_wp2
      go_ret
      exact ⟨ret_bool (by simp [catB, HA.out, h8]), bel⟩

theorem bytesLess_irrefl (a : List UInt8) : Op.bytesLess a a = false := by
  induction a with
  | nil => rfl
  | cons x a ih => rw [Op.bytesLess, ih]; simp
theorem bytesLess_tri (a b : List UInt8) : (Op.bytesLess b a || b == a) = !Op.bytesLess a b := by
  induction a generalizing b with
  | nil => cases b <;> simp [Op.bytesLess]
  | cons x a ih =>
    cases b with
    | nil => simp [Op.bytesLess]
    | cons y b =>
      have := ih b
      simp only [Op.bytesLess, List.cons_beq_cons]
      by_cases h : x = y
      · subst h
        simpa using this
      · have h1 : (y == x) = false := by simpa using fun e => h e.symm
        have h2 : (x == y) = false := by simpa using h
        rw [h1, h2]
        simp only [Bool.false_and, Bool.or_false]
        rcases UInt8.lt_or_lt_of_ne h with h3 | h3
        · have : ¬ y < x := by simp only [UInt8.lt_iff_toNat_lt] at *; omega
          simp [h3, this]
        · have : ¬ x < y := by simp only [UInt8.lt_iff_toNat_lt] at *; omega
          simp [h3, this]

set_option maxHeartbeats 1600000 in
set_option maxRecDepth 100000 in
theorem catalogS_ok (v : Value) (l : List En) (w : World) (h1 : RdE w v l) (hl : l.length + szE l ≤ 1048577) :
    Calls Try.prog 10 #[v] w fun e w' => e = .returned (.bool (catB l)) ∧ Below w.heap.size w w' := by
  obtain ⟨A1, c1, rfl, _, hm⟩ := h1.form
  unfold maxLen at hm
  go_enter Try.func10, Try.ntmps10
  go_wp2
  go_loopw [3] (fun i wr => ∃ k : Nat, k ≤ l.length ∧ i = .int .i64 k ∧ okC l k = true ∧ Below w.heap.size w wr) (fun i _ => l.length - (intOf i).toNat)
  case atStart => exact ⟨0, Nat.zero_le _, rfl, rfl, Below.refl _ _⟩
  case round =>
    obtain ⟨k, hk, rfl, ha, bel⟩ := hrel
    have HA := Lib.hid ha
    clear ha
    by_cases hlt : k < l.length
    · have h2 := h1.bl bel
      obtain ⟨b, o, vt, rfl, hb, q0, q1, rt2⟩ := RdE.at_ h2 hlt
      obtain ⟨Av, cv, rfl, _, _⟩ := rt2.form
      obtain ⟨vn, hvn⟩ : ∃ n, (gE l k).2.length = n := ⟨_, rfl⟩
      rw [hvn] at q1 rt2
      have hat := szE_at hlt
      have hlt' : (k : Int) < (l.length : Int) := by omega
      go_upto_region 4 with (fail)
      clear h1 hb
      go_cut [43] (fun s wx => s = .bool (!enB l k) ∧ Below wr.heap.size wr wx)
      case first =>
        have cn := fun W => nameS_any (gE l k).1 W (by omega)
        have ct := fun W (h : RdN W (.slice Av vn cv) (gE l k).2) => tuneS_ok (.slice Av vn cv) (gE l k).2 W h (by omega)
        have g0 := cell_regrown q0
        have g1 := cell_regrown q1
        cases hn : nameB (gE l k).1
        · rw [hn] at cn
          have CN := Lib.hid cn
          have HE := Lib.hid (show enB l k = false by simp [enB, hn])
          clear cn ct hn h2 q0 q1
          (refine wp_region_quiet_below (by kernel_rfl) (by kernel_rfl) ?_; (repeat (first | go_big_quiet_skip | (go_big_quiet_want; go_big_quiet_op; (first | go_big_quiet_on | (apply Exists.intro; refine ⟨fun _ => ?_, ?_⟩; (focus (first | (go_at_call 37; exact rg_same (CN.out _)) | fail)); go_big_quiet_on))))); refine wpQuiet_nil ?_; (intro wq hwq; have bq := rg_below hwq; clear hwq))
          go_wp2; go_meet
          exact ⟨by rw [HE.out]; rfl, by (repeat' (first | (with_reducible exact Below.refl _ _) | (with_reducible refine bl_alloc ?_ _) | (with_reducible refine bl_drewN ?_ _) | (with_reducible refine bl_drew ?_) | (with_reducible assumption) | (with_reducible refine bl_to ?_ (by assumption)) | (with_reducible refine Below.trans ?_ (by assumption)) | (with_reducible refine Below.trans ?_ (Below.mono (by assumption) ?_)) | (with_reducible refine bl_set ?_ ?_ _) | (simp; done) | (simp; omega) | omega))⟩
        rw [hn] at cn
        have CN := Lib.hid cn
        cases htn : tuneB (gE l k).2
        · rw [htn] at ct
          have CT := Lib.hid ct
          have HE := Lib.hid (show enB l k = false by simp [enB, htn])
          clear cn ct hn htn h2 q0 q1
          (refine wp_region_quiet_below (by kernel_rfl) (by kernel_rfl) ?_; (repeat (first | go_big_quiet_skip | (go_big_quiet_want; go_big_quiet_op; (first | go_big_quiet_on | (apply Exists.intro; refine ⟨fun _ => ?_, ?_⟩; (focus (first | (go_at_call 37; exact rg_same (CN.out _)) | (go_at_call 38; exact Calls.regrown_of (CT.out _ (rt2.bl (below_regrown _ _ _)))) | fail)); go_big_quiet_on))))); refine wpQuiet_nil ?_; (intro wq hwq; have bq := rg_below hwq; clear hwq))
          go_wp2; go_meet
          exact ⟨by rw [HE.out]; rfl, by (repeat' (first | (with_reducible exact Below.refl _ _) | (with_reducible refine bl_alloc ?_ _) | (with_reducible refine bl_drewN ?_ _) | (with_reducible refine bl_drew ?_) | (with_reducible assumption) | (with_reducible refine bl_to ?_ (by assumption)) | (with_reducible refine Below.trans ?_ (by assumption)) | (with_reducible refine Below.trans ?_ (Below.mono (by assumption) ?_)) | (with_reducible refine bl_set ?_ ?_ _) | (simp; done) | (simp; omega) | omega))⟩
        rw [htn] at ct
        have CT := Lib.hid ct
        by_cases hz : k = 0
        · have hzd : decide (0 < k) = false := by simp [hz]
          have HE := Lib.hid (show enB l k = true by subst hz; simp [enB, htn, hn])
          clear cn ct hn htn h2 hz q0 q1
          (refine wp_region_quiet_below (by kernel_rfl) (by kernel_rfl) ?_; (repeat (first | go_big_quiet_skip | (go_big_quiet_want; go_big_quiet_op; (first | go_big_quiet_on | (apply Exists.intro; refine ⟨fun _ => ?_, ?_⟩; (focus (first | (go_at_call 37; exact rg_same (CN.out _)) | (go_at_call 38; exact Calls.regrown_of (CT.out _ (rt2.bl (below_regrown _ _ _)))) | fail)); go_big_quiet_on))))); refine wpQuiet_nil ?_; (intro wq hwq; have bq := rg_below hwq; clear hwq))
          go_wp2; go_meet
          exact ⟨by rw [HE.out]; rfl, by (repeat' (first | (with_reducible exact Below.refl _ _) | (with_reducible refine bl_alloc ?_ _) | (with_reducible refine bl_drewN ?_ _) | (with_reducible refine bl_drew ?_) | (with_reducible assumption) | (with_reducible refine bl_to ?_ (by assumption)) | (with_reducible refine Below.trans ?_ (by assumption)) | (with_reducible refine Below.trans ?_ (Below.mono (by assumption) ?_)) | (with_reducible refine bl_set ?_ ?_ _) | (simp; done) | (simp; omega) | omega))⟩
        · have hzd : decide (0 < k) = true := by simp; omega
          have hze : 0 < k := by omega
          have kt : ((k : Int) - 1).toNat = k - 1 := by omega
          have k0 : (0 : Int) ≤ (k : Int) - 1 := by omega
          have k1 : (k : Int) - 1 < (l.length : Int) := by omega
          have k2 : (1 : Int) ≤ (k : Int) := by omega
          obtain ⟨b', o', vp, hbo, hb2, d0, _, _⟩ := RdE.at_ h2 (k := k - 1) (by omega)
          obtain ⟨rfl, rfl⟩ : b = b' ∧ o = o' := by simpa using hbo
          have g2 := cell_regrown d0
          have htr := bytesLess_tri (gE l (k - 1)).1.toList (gE l k).1.toList
          cases hc : Op.bytesLess (gE l (k - 1)).1.toList (gE l k).1.toList
          · have HE := Lib.hid (show enB l k = false by simp [enB, ltS, htn, hn, hc]; omega)
            rw [hc] at htr
            clear cn ct hn htn h2 hz hbo q0 q1 d0
            have kw : IntKind.i64.wrap ((k : Int) - 1) = (k : Int) - 1 := IntWalk.i64_in _ (by omega)
            (refine wp_region_quiet_below (by kernel_rfl) (by kernel_rfl) ?_; (repeat (first | go_big_quiet_skip | (go_big_quiet_want; go_big_quiet_op; (first | go_big_quiet_on | (apply Exists.intro; refine ⟨fun _ => ?_, ?_⟩; (focus (first | (go_at_call 37; exact rg_same (CN.out _)) | (go_at_call 38; exact Calls.regrown_of (CT.out _ (rt2.bl (below_regrown _ _ _)))) | fail)); go_big_quiet_on))))); refine wpQuiet_nil ?_; (intro wq hwq; have bq := rg_below hwq; clear hwq))
            go_wp2; go_meet
            exact ⟨by rw [HE.out]; first | rfl | (simpa using htr), by (repeat' (first | (with_reducible exact Below.refl _ _) | (with_reducible refine bl_alloc ?_ _) | (with_reducible refine bl_drewN ?_ _) | (with_reducible refine bl_drew ?_) | (with_reducible assumption) | (with_reducible refine bl_to ?_ (by assumption)) | (with_reducible refine Below.trans ?_ (by assumption)) | (with_reducible refine Below.trans ?_ (Below.mono (by assumption) ?_)) | (with_reducible refine bl_set ?_ ?_ _) | (simp; done) | (simp; omega) | omega))⟩
          · have HE := Lib.hid (show enB l k = true by simp [enB, ltS, htn, hn, hc])
            rw [hc] at htr
            clear cn ct hn htn h2 hz hbo q0 q1 d0
            have kw : IntKind.i64.wrap ((k : Int) - 1) = (k : Int) - 1 := IntWalk.i64_in _ (by omega)
            (refine wp_region_quiet_below (by kernel_rfl) (by kernel_rfl) ?_; (repeat (first | go_big_quiet_skip | (go_big_quiet_want; go_big_quiet_op; (first | go_big_quiet_on | (apply Exists.intro; refine ⟨fun _ => ?_, ?_⟩; (focus (first | (go_at_call 37; exact rg_same (CN.out _)) | (go_at_call 38; exact Calls.regrown_of (CT.out _ (rt2.bl (below_regrown _ _ _)))) | fail)); go_big_quiet_on))))); refine wpQuiet_nil ?_; (intro wq hwq; have bq := rg_below hwq; clear hwq))
            go_wp2; go_meet
            exact ⟨by rw [HE.out]; first | rfl | (simpa using htr), by (repeat' (first | (with_reducible exact Below.refl _ _) | (with_reducible refine bl_alloc ?_ _) | (with_reducible refine bl_drewN ?_ _) | (with_reducible refine bl_drew ?_) | (with_reducible assumption) | (with_reducible refine bl_to ?_ (by assumption)) | (with_reducible refine Below.trans ?_ (by assumption)) | (with_reducible refine Below.trans ?_ (Below.mono (by assumption) ?_)) | (with_reducible refine bl_set ?_ ?_ _) | (simp; done) | (simp; omega) | omega))⟩
      case rest =>
        obtain ⟨rfl, bq⟩ := hcut
        obtain ⟨w7, rfl⟩ : ∃ x : World, x = wc := ⟨_, rfl⟩
        have bel3 := bl_to bel bq
        clear bel bq rt2 h2 q0 q1
        cases he : enB l k
        · have hj := Lib.hid (okC_no hlt he)
          go_wp2
          go_ret
          exact ⟨ret_bool (by simp [catB, hj.out]), bel3⟩
        · have hj := Lib.hid (show okC l (k + 1) = true by rw [okC, HA.out, he]; rfl)
          go_wp2
          go_roundw
          case rel => exact ⟨k + 1, by omega, by go_num, hj.out, bel3⟩
          case measure => simp [intOf]; omega
    · obtain rfl : k = l.length := by omega
      have hlt' : ¬ (l.length : Int) < (l.length : Int) := by omega
      go_wp2
      go_ret
      exact ⟨ret_bool (by simp [catB, HA.out]; try omega), bel⟩
end Go.Proofs.Ytighmoedkknkoaa
