/- l06Put of the reference: a pin is put in at its place; lengths up to 100. -/
import Derived.Test.YthgllpocljeegaaGreatDoorSortedP
import Derived.Test.YthgllpocljeegaaGreatDoorAppPin
import Derived.Test.YthgllpocljeegaaGreatDoorCyl
import Derived.Test.YthgllpocljeegaaGreatDoorQB
import Derived.Deep.RegionHeld3
namespace Go.Proofs.YthgllpocljeegaaGreatDoor
open Go.RowKit Go.Sort

theorem insP_at {x : Int × Int} {l : List (Int × Int)} {n : Nat} (hn : n ≤ l.length) (h1 : ∀ j, j < n → ltP (gP l j) x = true) (h2 : n < l.length → ltP (gP l n) x = false) (h3 : n < l.length → gP l n ≠ x) :
    insF ltP x l = l.take n ++ x :: l.drop n := by
  rw [insF_at l n hn (fun j h hj => by have := h1 j hj; rwa [gP_eq h] at this) (fun h => by have := h2 h; rwa [gP_eq h] at this)]
  split
  · rename_i h
    have := h3 h
    rw [gP_eq h] at this
    rw [if_neg this]
  · have e : n = l.length := by omega
    subst e
    simp
theorem insP_in {x : Int × Int} {l : List (Int × Int)} {n : Nat} (hn : n < l.length) (h1 : ∀ j, j < n → ltP (gP l j) x = true) (h3 : gP l n = x) : insF ltP x l = l := by
  have h2 : ltP (gP l n) x = false := by rw [h3]; exact ordP.irr x
  rw [insF_at l n (by omega) (fun j h hj => by have := h1 j hj; rwa [gP_eq h] at this) (fun h => by rwa [gP_eq h] at h2)]
  rw [dif_pos hn, if_pos (by rw [← gP_eq hn]; exact h3)]
theorem RdP.take {w : World} {b o m c : Nat} {l : List (Int × Int)} (h : RdP w (.slice (some ⟨b, o, none⟩) m c) l) {n : Nat} (hn : n ≤ l.length) : RdP w (.slice (some ⟨b, o, none⟩) n c) (l.take n) := by
  have e : (l.take n).length = n := by simp; omega
  obtain ⟨h0, A, c', hv, h1, h2, h4, h3⟩ := h
  obtain ⟨rfl, rfl, rfl⟩ : some ⟨b, o, none⟩ = A ∧ m = l.length ∧ c = c' := by simpa using hv
  refine ⟨by rw [cP_len], _, c, by rw [e], by omega, h2, fun h => by simp at h, fun hp => ?_⟩
  obtain ⟨b', o', hA, hb, hc⟩ := h3 (by omega)
  obtain ⟨rfl, rfl⟩ : b = b' ∧ o = o' := by simpa using hA
  refine ⟨b, o, rfl, hb, fun j u hu => hc j u ?_⟩
  have hl : cP l = cP (l.take n) ++ cP (l.drop n) := by rw [← cP_append, List.take_append_drop]
  rw [hl, List.getElem?_append_left]
  · exact hu
  · rcases Nat.lt_or_ge j (cP (l.take n)).length with h | h
    · exact h
    · rw [List.getElem?_eq_none h] at hu; cases hu
theorem RdP.drop {w : World} {b o m c : Nat} {l : List (Int × Int)} (h : RdP w (.slice (some ⟨b, o, none⟩) m c) l) {n : Nat} (hn : n ≤ l.length) : RdP w (.slice (if c = n then some ⟨b, o, none⟩ else some ⟨b, o + n * 2, none⟩) (l.length - n) (c - n)) (l.drop n) := by
  have e : (l.drop n).length = l.length - n := by simp
  obtain ⟨h0, A, c', hv, h1, h2, h4, h3⟩ := h
  obtain ⟨rfl, rfl, rfl⟩ : some ⟨b, o, none⟩ = A ∧ m = l.length ∧ c = c' := by simpa using hv
  refine ⟨by rw [cP_len], _, c - n, by rw [e], by omega, by omega, fun h => by split at h <;> simp at h, fun hp => ?_⟩
  obtain ⟨b', o', hA, hb, hc⟩ := h3 (by omega)
  obtain ⟨rfl, rfl⟩ : b = b' ∧ o = o' := by simpa using hA
  refine ⟨b, o + n * 2, by rw [if_neg (by omega)], hb, fun j u hu => ?_⟩
  have hl : cP l = cP (l.take n) ++ cP (l.drop n) := by rw [← cP_append, List.take_append_drop]
  have hn2 : (cP (l.take n)).length = n * 2 := by rw [cP_len]; simp; omega
  have := hc (n * 2 + j) u (by rw [hl, List.getElem?_append_right (by omega), hn2]; simpa using hu)
  rwa [show o + n * 2 + j = o + (n * 2 + j) by omega]

theorem RdP.fit {w W : World} {A : Option Addr} {c m : Nat} {l : List (Int × Int)} (h : RdP w (.slice A m c) l) (b : Below w.heap.size w W) {m' : Nat} (e : m = m') : RdP W (.slice A m' c) l := by
  subst e
  exact h.bl b
/-- 'append(v, x...)', as a step: v a row of the call's own, x any slice of notes; what grew is told -/
theorem step_app_Pg (w : World) {ops : Array Oper} {o : Oper} {a : Act} {K : Act → World → Prop} {Q : Exit → Act → World → Prop} {E : Prop} (hgd : o.guard = none) (s x : Operand)
    (ho : o.op = .call { callee := .builtin .append, args := #[s, x], argTypes := #[29, 29] })
    (lo : Nat) (v : Value) (l : List (Int × Int)) (hs : a.eval s = v) (hown : w.ownsRow lo 44 2 v l.length (cP l))
    (vx : Value) (m : List (Int × Int)) (hx : a.eval x = vx) (hr : RdP w vx m) (hl : l.length + m.length ≤ 4194304) (hbase : lo ≤ w.heap.size) (L : List (Int × Int)) (hL : l ++ m = L)
    (h : ∀ A c w', w'.ownsRow lo 44 2 (.slice A L.length c) L.length (cP L) → Below lo w w' → w.grownBy w' v.ownBlock → K (a.put o.dst (.slice A L.length c)) w') :
    if Region.wanted o (yielded ops a.tmps) = true then Oper.wp Tryz.prog o a w K Q else E := by
  have hw : Region.wanted o (yielded ops a.tmps) = true := by simp [Region.wanted, hgd]
  rw [if_pos hw]
  obtain ⟨i0, hi0, hz0, hz1, hz2⟩ := info_parts info_Pin
  obtain ⟨A, c, rfl, hmc, hcm⟩ := hr.form
  subst hL
  rcases A with _ | ad
  · have hc := hr.none_
    subst hc
    have hm : m = [] := List.eq_nil_of_length_eq_zero (by omega)
    subst hm
    have hrun := run_append_owned_none (P := Tryz.prog) (w := w) lo 29 o.type 44 i0 2 Tryz.underlying29 hi0 v l.length (cP l) hown
    obtain ⟨A, c, rfl⟩ := own_form hown
    unfold Oper.wp
    simp [execOp, ho, resolve, invoke, builtin, hs, hx, hrun, Result.andThen]
    have h' := h A c w
    rw [List.append_nil] at h'
    exact h' hown (Below.refl _ _) (World.grownBy.refl _ _)
  · refine wp_append_own w s x 29 ho lo 44 i0 (.agg #[.int .i64 0, .int .i64 0]) 2 16 Tryz.underlying29 hi0 hz0 hz1 hz2 rfl (by decide) v l.length (cP l) hs hown ad m.length c (cP m) hx hr.1 ?_ (cP_one m) (by unfold maxLen; omega) (by omega) hbase ?_
    · intro j u hj
      have hm : 0 < m.length := by
        rcases Nat.eq_zero_or_pos m.length with h0 | h0
        · have : m = [] := List.eq_nil_of_length_eq_zero h0
          subst this
          simp [cP] at hj
        · exact h0
      obtain ⟨b, o', hA, _, hc⟩ := hr.look hm
      obtain rfl : ad = ⟨b, o', none⟩ := Option.some.inj hA
      have : (⟨b, o', none⟩ : Addr).add j = ⟨b, o' + j, none⟩ := by unfold Addr.add; split <;> simp_all
      rw [this]
      exact hc j u hj
    · intro v' w' own' gr _
      rw [← List.length_append, ← cP_append] at own'
      obtain ⟨A, c, rfl⟩ := own_form own'
      exact h A c w' own' ((Below.refl lo w).grown gr hbase (fun k hk => (hown.lt k hk).1)) gr
def NewPut (l : List (Int × Int)) (w : World) (en : Ending) (w' : World) : Prop :=
  ∃ A c b, en = .returned (.tuple #[.slice A l.length c, .bool b]) ∧ w'.ownsRow w.heap.size 44 2 (.slice A l.length c) l.length (cP l) ∧ Below w.heap.size w w'
theorem cut_nil (n : Nat) (h : n = 0) (w : World) : RdP w (.slice none 0 0) (([] : List (Int × Int)).take n) ∧ RdP w (.slice none 0 0) (([] : List (Int × Int)).drop n) := by subst h; exact ⟨Rd.nil w 2, Rd.nil w 2⟩
set_option maxHeartbeats 6400000 in
set_option maxRecDepth 100000 in
theorem putNil_any (p0 p1 : Int) (w : World) :
    Calls Tryz.prog 34 #[.slice none 0 0, .agg #[.int .i64 p0, .int .i64 p1]] w (NewPut (insF ltP (p0, p1) []) w) := by
  have ba := bl_alloc (Below.refl w.heap.size w) (.cells #[.int .i64 p0, .int .i64 p1] 44)
  have b0 : (w.alloc (.cells #[.int .i64 p0, .int .i64 p1] 44)).cell? ⟨w.heap.size, 0, none⟩ = some (.int .i64 p0) := by simp [go_sem]
  have b1 : (w.alloc (.cells #[.int .i64 p0, .int .i64 p1] 44)).cell? ⟨w.heap.size, 1, none⟩ = some (.int .i64 p1) := by simp [go_sem]
  have hbx : w.heap.size < (w.alloc (.cells #[.int .i64 p0, .int .i64 p1] 44)).heap.size := by simp
  obtain ⟨l, hl0⟩ : ∃ l : List (Int × Int), l = [] := ⟨_, rfl⟩
  obtain ⟨n, hn0⟩ : ∃ n : Nat, n = 0 := ⟨_, rfl⟩
  have hn : n ≤ l.length := by omega
  have hl : l.length ≤ 99 := by rw [hl0]; simp
  have hfin : Hid (insF ltP (p0, p1) l = l.take n ++ (p0, p1) :: l.drop n) := by rw [hl0, hn0]; rfl
  have rt : RdP (w.alloc (.cells #[.int .i64 p0, .int .i64 p1] 44)) (.slice none 0 0) (l.take n) := by rw [hl0, hn0]; exact Rd.nil _ 2
  have rp : RdP (w.alloc (.cells #[.int .i64 p0, .int .i64 p1] 44)) (.slice none 0 0) (l.drop n) := by rw [hl0, hn0]; exact Rd.nil _ 2
  rw [← hl0]
  have HL0 := Lib.hid (And.intro hl0 hn0)
  clear hl0 hn0
  go_enter Tryz.func34, Tryz.ntmps34
  go_wp2
  generalize hw1 : w.alloc (.cells #[.int .i64 p0, .int .i64 p1] 44) = w1 at *
  clear hw1
  refine wp_loop_rounds 1 ?_
  rw [rounds_succ]
  go_wp2
  (refine wp_region_quiet_below (by kernel_rfl) (by kernel_rfl) ?_; (repeat (first | go_big_quiet_skip | (go_big_quiet_want; go_big_quiet_op; (first | go_big_quiet_on | (apply Exists.intro; refine ⟨fun _ => ?_, ?_⟩; (focus (first | (go_at_call 51; exact Calls.regrown_of (lessP_any _ _ _ _ _)) | fail)); go_big_quiet_on))))); refine wpQuiet_nil ?_; (intro wq hwq; have bq := rg_below hwq; clear hwq))
  have b0 := (bq.cell (p := ⟨w.heap.size, 0, none⟩) hbx).trans b0
  have b1 := (bq.cell (p := ⟨w.heap.size, 1, none⟩) hbx).trans b1
  have rt := rt.bl bq
  have rp := rp.bl bq
  have bel3 := bl_to ba bq
  have hb3 : w.heap.size < wq.heap.size := Nat.lt_of_lt_of_le hbx bq.size
  clear bq ba hbx
  go_wp2
  go_big_quiet (fail)
  obtain ⟨w3, hw3⟩ : ∃ x, x = wq := ⟨_, rfl⟩
  subst hw3
  have Q0 := True.intro
  have Q1 := True.intro
  have E0 := True.intro
  have E1 := True.intro
  clear Q0 Q1 E0 E1
  have bel4 := bl_drewN bel3 nq
  have e04 : (w3.drewN nq).cell? ⟨w.heap.size, 0, none⟩ = some (.int .i64 p0) := b0
  have e14 : (w3.drewN nq).cell? ⟨w.heap.size, 1, none⟩ = some (.int .i64 p1) := b1
  have hb4 : w.heap.size < (w3.drewN nq).heap.size := hb3
  have rt4 := rt.bl (bl_drewN (Below.refl _ _) nq)
  have rp4 := rp.bl (bl_drewN (Below.refl _ _) nq)
  clear b0 b1 bel3 rt rp hb3
  generalize w3.drewN nq = w4 at *
  have lt1 : (l.take n).length ≤ 100 := by rw [List.length_take]; omega
  have hLf : l.take n ++ [(p0, p1)] ++ l.drop n = insF ltP (p0, p1) l := by rw [hfin.out]; simp
  have hdl : (l.drop n).length ≤ 100 := by rw [List.length_drop]; omega
  generalize hT2 : insF ltP (p0, p1) l = T2 at *
  generalize l.take n = P1 at *
  generalize l.drop n = P2 at *
  clear hfin
  go_wp2
  go_region_held3 (fun w' => w'.cell? ⟨w.heap.size, 0, none⟩ = some (.int .i64 p0) ∧ w'.cell? ⟨w.heap.size, 1, none⟩ = some (.int .i64 p1))
    (first | exact ⟨u0, u1⟩ | exact ⟨r0, r1⟩ | exact ⟨q0, q1⟩ | go_keep)
    (first
      | (refine step_is_append (.tmp 36) (.tmp 39) _ rfl ?_; refine step_app_Pg _ (by rfl) _ _ (by rfl) w4.heap.size _ [] (by rfl) (by first | exact own_new0d (Nat.le_refl _) rfl | exact own_new0d (by simp) (by simp) | exact ((own_new0 (Nat.le_refl _) rfl).alloc _).drew) _ (P1) (by rfl) (rt4.bl (by (repeat' (first | (with_reducible exact Below.refl _ _) | (with_reducible refine bl_alloc ?_ _) | (with_reducible refine bl_drewN ?_ _) | (with_reducible refine bl_drew ?_) | (with_reducible assumption) | (with_reducible refine bl_to ?_ (by assumption)) | (with_reducible refine Below.trans ?_ (by assumption)) | (with_reducible refine Below.trans ?_ (Below.mono (by assumption) ?_)) | (with_reducible refine bl_set ?_ ?_ _) | (simp; done) | (simp; omega) | omega)))) (by simp; omega) (by (first | omega | (simp; done) | (simp; omega))) (P1) (by rfl) ?_; intro A1 c5 w5 ow5 b5 gr5; replace gr5 : World.grownBy _ w5 (some _) := gr5; have lt5 : w.heap.size < w5.heap.size := Nat.lt_of_lt_of_le (by simp; omega) b5.size; have u0 : w5.cell? ⟨w.heap.size, 0, none⟩ = some (.int .i64 p0) := (b5.cell (p := ⟨w.heap.size, 0, none⟩) hb4).trans (by simp [go_sem, e04, hb4]); have u1 : w5.cell? ⟨w.heap.size, 1, none⟩ = some (.int .i64 p1) := (b5.cell (p := ⟨w.heap.size, 1, none⟩) hb4).trans (by simp [go_sem, e14, hb4]))
      | (refine step_is_append (.tmp 40) (.tmp 42) _ rfl ?_; refine step_app_P1 _ (by rfl) _ _ (by rfl) w4.heap.size (.slice A1 (P1).length c5) (P1) (by rfl) (by first | exact ow5 | exact ow5.alloc _) _ p0 p1 (by rfl) (by first | (simp [go_sem]; done) | exact (cell_grown gr5 (by (first | omega | (simp; done) | (simp; omega))) (by intro k hk; simp at hk; omega) 0).trans (by simp [go_sem])) (by first | (simp [go_sem]; done) | exact (cell_grown gr5 (by (first | omega | (simp; done) | (simp; omega))) (by intro k hk; simp at hk; omega) 1).trans (by simp [go_sem])) (by omega) (by have := b5.size; simp at *; omega) ?_; intro A2 m2 c2 w6 ow6 b6 gr6 at6; have r0 : w6.cell? ⟨w.heap.size, 0, none⟩ = some (.int .i64 p0) := (b6.cell (p := ⟨w.heap.size, 0, none⟩) hb4).trans (by first | exact u0 | simp [go_sem, u0, lt5]); have r1 : w6.cell? ⟨w.heap.size, 1, none⟩ = some (.int .i64 p1) := (b6.cell (p := ⟨w.heap.size, 1, none⟩) hb4).trans (by first | exact u1 | simp [go_sem, u1, lt5]))
      | (refine step_is_append (.tmp 43) (.tmp 46) _ rfl ?_; refine step_app_Pg _ (by rfl) _ _ (by rfl) w4.heap.size (.slice A2 m2 c2) (P1 ++ [(p0, p1)]) (by rfl) ow6 _ (P2) (by rfl) (rp4.bl (by (repeat' (first | (with_reducible exact Below.refl _ _) | (with_reducible refine bl_alloc ?_ _) | (with_reducible refine bl_drewN ?_ _) | (with_reducible refine bl_drew ?_) | (with_reducible assumption) | (with_reducible refine bl_to ?_ (by assumption)) | (with_reducible refine Below.trans ?_ (by assumption)) | (with_reducible refine Below.trans ?_ (Below.mono (by assumption) ?_)) | (with_reducible refine bl_set ?_ ?_ _) | (simp; done) | (simp; omega) | omega)))) (by rw [List.length_append]; simp; omega) (by have := b5.size; have := b6.size; simp at *; omega) T2 hLf ?_; intro A3 c3 w7 ow7 b7 gr7; have q0 : w7.cell? ⟨w.heap.size, 0, none⟩ = some (.int .i64 p0) := (b7.cell (p := ⟨w.heap.size, 0, none⟩) hb4).trans r0; have q1 : w7.cell? ⟨w.heap.size, 1, none⟩ = some (.int .i64 p1) := (b7.cell (p := ⟨w.heap.size, 1, none⟩) hb4).trans r1))
  all_goals
    have bel7 : Below w.heap.size w w7 := bl_to bel4 (by (repeat' (first | (with_reducible exact Below.refl _ _) | (with_reducible refine bl_alloc ?_ _) | (with_reducible refine bl_drewN ?_ _) | (with_reducible refine bl_drew ?_) | (with_reducible assumption) | (with_reducible refine bl_to ?_ (by assumption)) | (with_reducible refine Below.trans ?_ (by assumption)) | (with_reducible refine Below.trans ?_ (Below.mono (by assumption) ?_)) | (with_reducible refine bl_set ?_ ?_ _) | (simp; done) | (simp; omega) | omega)))
    have sz7 : w.heap.size ≤ w4.heap.size := bel4.size
    go_wp2
    all_goals exact bodyPost_ret (v := .tuple #[.slice A3 T2.length c3, .bool true]) (by simp [results, Tryz.results34, go_sem]) rfl ⟨A3, c3, true, by first | rfl | (rw [hT2]), by first | exact own_lo ow7 sz7 | (rw [hT2]; exact own_lo ow7 sz7), bel7⟩
set_option maxHeartbeats 6400000 in
set_option maxRecDepth 100000 in
theorem put_any (b o c : Nat) (l : List (Int × Int)) (p0 p1 : Int) (w : World) (h1 : RdP w (.slice (some ⟨b, o, none⟩) l.length c) l) (hb : b < w.heap.size) (hl : l.length ≤ 99) :
    Calls Tryz.prog 34 #[.slice (some ⟨b, o, none⟩) l.length c, .agg #[.int .i64 p0, .int .i64 p1]] w (NewPut (insF ltP (p0, p1) l) w) := by
  have ba := bl_alloc (Below.refl w.heap.size w) (.cells #[.int .i64 p0, .int .i64 p1] 44)
  obtain ⟨hTc, hcm⟩ : l.length ≤ c ∧ c ≤ maxLen := by
    obtain ⟨A, c', hv, q1, q2⟩ := h1.form
    obtain ⟨_, _, rfl⟩ : some ⟨b, o, none⟩ = A ∧ l.length = l.length ∧ c = c' := by simpa using hv
    exact ⟨q1, q2⟩
  unfold maxLen at hcm
  have b0 : (w.alloc (.cells #[.int .i64 p0, .int .i64 p1] 44)).cell? ⟨w.heap.size, 0, none⟩ = some (.int .i64 p0) := by simp [go_sem]
  have b1 : (w.alloc (.cells #[.int .i64 p0, .int .i64 p1] 44)).cell? ⟨w.heap.size, 1, none⟩ = some (.int .i64 p1) := by simp [go_sem]
  have hbx : w.heap.size < (w.alloc (.cells #[.int .i64 p0, .int .i64 p1] 44)).heap.size := by simp
  go_enter Tryz.func34, Tryz.ntmps34
  go_wp2
  generalize hw1 : w.alloc (.cells #[.int .i64 p0, .int .i64 p1] 44) = w1 at *
  go_loopw [6] (fun i wr => ∃ n : Nat, n ≤ l.length ∧ i = .int .i64 n ∧ (∀ j, j < n → ltP (gP l j) (p0, p1) = true) ∧ Below w1.heap.size w1 wr) (fun i _ => l.length - (intOf i).toNat)
  case atStart => exact ⟨0, Nat.zero_le _, rfl, fun j h => by omega, Below.refl _ _⟩
  case round =>
    obtain ⟨n, hn, rfl, ha, bw⟩ := hrel
    have HA := Lib.hid ha
    have b0 := (bw.cell (p := ⟨w.heap.size, 0, none⟩) hbx).trans b0
    have b1 := (bw.cell (p := ⟨w.heap.size, 1, none⟩) hbx).trans b1
    have bel := ba.trans (bw.mono (Nat.le_of_lt hbx))
    have rd := h1.bl bel
    have hb2 : w.heap.size < wr.heap.size := Nat.lt_of_lt_of_le hbx bw.size
    have n0 : (0 : Int) ≤ (n : Int) := by omega
    have nT : (n : Int) ≤ (l.length : Int) := by omega
    have nc : (n : Int) ≤ (c : Int) := by omega
    have Q0 := cell_regrown b0
    have Q1 := cell_regrown b1
    clear ha h1 ba
    by_cases hnl : n < l.length
    · have hnl' : (n : Int) < (l.length : Int) := by omega
      have hnd : decide (n < l.length) = true := by simpa using hnl
      have hne : ¬ n = l.length := by omega
      have hned : ((n : Int) == (l.length : Int)) = false := by rw [beq_eq_false_iff_ne]; omega
      obtain ⟨b', o', hbo, hg, d0, d1⟩ := RdP.at_ rd hnl
      obtain ⟨rfl, rfl⟩ : b = b' ∧ o = o' := by simpa using hbo
      have E0 := cell_regrown d0
      have E1 := cell_regrown d1
      have cl := fun W => lessP_any (gP l n).1 (gP l n).2 p0 p1 W
      have hpair : ltP ((gP l n).1, (gP l n).2) (p0, p1) = ltP (gP l n) (p0, p1) := rfl
      rw [hpair] at cl
      cases hlt2 : ltP (gP l n) (p0, p1)
      · rw [hlt2] at cl
        have CL := Lib.hid cl
        clear cl hpair hbo
        go_wp2
        (refine wp_region_quiet_below (by kernel_rfl) (by kernel_rfl) ?_; (repeat (first | go_big_quiet_skip | (go_big_quiet_want; go_big_quiet_op; (first | go_big_quiet_on | (apply Exists.intro; refine ⟨fun _ => ?_, ?_⟩; (focus (first | (go_at_call 51; exact Calls.regrown_of (CL.out _)) | fail)); go_big_quiet_on))))); refine wpQuiet_nil ?_; (intro wq hwq; have bq := rg_below hwq; clear hwq))
        clear Q0 Q1 E0 E1
        have b0 := (bq.cell (p := ⟨w.heap.size, 0, none⟩) hb2).trans b0
        have b1 := (bq.cell (p := ⟨w.heap.size, 1, none⟩) hb2).trans b1
        have d0 := (bq.cell (p := ⟨b, o + n * 2, none⟩) hg).trans d0
        have d1 := (bq.cell (p := ⟨b, o + n * 2 + 1, none⟩) hg).trans d1
        have rd := rd.bl bq
        have bel := bl_to bel bq
        have hb3 : w.heap.size < wq.heap.size := Nat.lt_of_lt_of_le hb2 bq.size
        clear bw bq hb2
        go_wp2
        by_cases heq : gP l n = (p0, p1)
        · have hn2 : insF ltP (p0, p1) l = l := insP_in hnl HA.out heq
          rw [heq] at d0 d1
          clear heq hlt2
          go_big_quiet (fail)
          have bel3 := bl_drewN bel nq
          have rd3 : RdP (wq.drewN nq) (.slice (some ⟨b, o, none⟩) l.length c) l := rd.bl (bl_drewN (Below.refl _ _) nq)
          clear b0 b1 d0 d1 rd bel hb3
          generalize wq.drewN nq = w3 at *
          have sz3 := bel3.size
          have HN2 := Lib.hid hn2
          clear hn2
          go_wp2_with (at_builtin; refine wpList_app_Ps _ rfl _ _ rfl w3.heap.size _ [] rfl (by exact World.ownsRow_made w3 #[] 0 (Nat.le_refl _) (by unfold maxLen; omega) rfl) _ l rfl (rd3.bl (by (repeat' (first | (with_reducible exact Below.refl _ _) | (with_reducible refine bl_alloc ?_ _) | (with_reducible refine bl_drewN ?_ _) | (with_reducible refine bl_drew ?_) | (with_reducible assumption) | (with_reducible refine bl_to ?_ (by assumption)) | (with_reducible refine Below.trans ?_ (by assumption)) | (with_reducible refine Below.trans ?_ (Below.mono (by assumption) ?_)) | (with_reducible refine bl_set ?_ ?_ _) | (simp; done) | (simp; omega) | omega)))) (by simp; omega) (by simp) l rfl ?_; intro A5 c5 w5 ow5 b5)
          exact bodyPost_ret (v := .tuple #[.slice A5 l.length c5, .bool false]) (by simp [results, Tryz.results34, go_sem]) rfl ⟨A5, c5, false, by rw [HN2.out], by rw [HN2.out]; exact own_lo ow5 sz3, bl_to bel3 (by (repeat' (first | (with_reducible exact Below.refl _ _) | (with_reducible refine bl_alloc ?_ _) | (with_reducible refine bl_drewN ?_ _) | (with_reducible refine bl_drew ?_) | (with_reducible assumption) | (with_reducible refine bl_to ?_ (by assumption)) | (with_reducible refine Below.trans ?_ (by assumption)) | (with_reducible refine Below.trans ?_ (Below.mono (by assumption) ?_)) | (with_reducible refine bl_set ?_ ?_ _) | (simp; done) | (simp; omega) | omega)))⟩
        · have hfin : Hid (insF ltP (p0, p1) l = l.take n ++ (p0, p1) :: l.drop n) := insP_at hn HA.out (fun _ => hlt2) (fun _ => heq)
          have rt := RdP.take rd hn
          have rp := RdP.drop rd hn
          have HE := Lib.hid heq
          clear heq hlt2 rd
          by_cases f1 : (gP l n).1 = p0
          have f2 : ¬ (gP l n).2 = p1 := fun h => HE.out (Prod.ext f1 h)
          all_goals
            go_big_quiet (fail)
            clear f1
            try clear f2
            have bel3 := bel
            clear bel d0 d1 HE
            have hb3x := hb3
            obtain ⟨w3, hw3⟩ : ∃ x, x = wq := ⟨_, rfl⟩
            subst hw3
            have Q0 := True.intro
            have Q1 := True.intro
            have E0 := True.intro
            have E1 := True.intro
            clear Q0 Q1 E0 E1
            have bel4 := bl_drewN bel3 nq
            have e04 : (w3.drewN nq).cell? ⟨w.heap.size, 0, none⟩ = some (.int .i64 p0) := b0
            have e14 : (w3.drewN nq).cell? ⟨w.heap.size, 1, none⟩ = some (.int .i64 p1) := b1
            have hb4 : w.heap.size < (w3.drewN nq).heap.size := hb3
            have rt4 := rt.bl (bl_drewN (Below.refl _ _) nq)
            have rp4 := rp.bl (bl_drewN (Below.refl _ _) nq)
            clear b0 b1 bel3 rt rp hb3
            generalize w3.drewN nq = w4 at *
            have lt1 : (l.take n).length ≤ 100 := by rw [List.length_take]; omega
            have hLf : l.take n ++ [(p0, p1)] ++ l.drop n = insF ltP (p0, p1) l := by rw [hfin.out]; simp
            have hdl : (l.drop n).length ≤ 100 := by rw [List.length_drop]; omega
            generalize hT2 : insF ltP (p0, p1) l = T2 at *
            generalize l.take n = P1 at *
            generalize l.drop n = P2 at *
            clear hfin
            go_wp2
            go_region_held3 (fun w' => w'.cell? ⟨w.heap.size, 0, none⟩ = some (.int .i64 p0) ∧ w'.cell? ⟨w.heap.size, 1, none⟩ = some (.int .i64 p1))
              (first | exact ⟨u0, u1⟩ | exact ⟨r0, r1⟩ | exact ⟨q0, q1⟩ | go_keep)
              (first
                | (refine step_is_append (.tmp 36) (.tmp 39) _ rfl ?_; refine step_app_Pg _ (by rfl) _ _ (by rfl) w4.heap.size _ [] (by rfl) (by first | exact own_new0d (Nat.le_refl _) rfl | exact own_new0d (by simp) (by simp) | exact ((own_new0 (Nat.le_refl _) rfl).alloc _).drew) _ (P1) (by rfl) (rt4.bl (by (repeat' (first | (with_reducible exact Below.refl _ _) | (with_reducible refine bl_alloc ?_ _) | (with_reducible refine bl_drewN ?_ _) | (with_reducible refine bl_drew ?_) | (with_reducible assumption) | (with_reducible refine bl_to ?_ (by assumption)) | (with_reducible refine Below.trans ?_ (by assumption)) | (with_reducible refine Below.trans ?_ (Below.mono (by assumption) ?_)) | (with_reducible refine bl_set ?_ ?_ _) | (simp; done) | (simp; omega) | omega)))) (by simp; omega) (by (first | omega | (simp; done) | (simp; omega))) (P1) (by rfl) ?_; intro A1 c5 w5 ow5 b5 gr5; replace gr5 : World.grownBy _ w5 (some _) := gr5; have lt5 : w.heap.size < w5.heap.size := Nat.lt_of_lt_of_le (by simp; omega) b5.size; have u0 : w5.cell? ⟨w.heap.size, 0, none⟩ = some (.int .i64 p0) := (b5.cell (p := ⟨w.heap.size, 0, none⟩) hb4).trans (by simp [go_sem, e04, hb4]); have u1 : w5.cell? ⟨w.heap.size, 1, none⟩ = some (.int .i64 p1) := (b5.cell (p := ⟨w.heap.size, 1, none⟩) hb4).trans (by simp [go_sem, e14, hb4]))
                | (refine step_is_append (.tmp 40) (.tmp 42) _ rfl ?_; refine step_app_P1 _ (by rfl) _ _ (by rfl) w4.heap.size (.slice A1 (P1).length c5) (P1) (by rfl) (by first | exact ow5 | exact ow5.alloc _) _ p0 p1 (by rfl) (by first | (simp [go_sem]; done) | exact (cell_grown gr5 (by (first | omega | (simp; done) | (simp; omega))) (by intro k hk; simp at hk; omega) 0).trans (by simp [go_sem])) (by first | (simp [go_sem]; done) | exact (cell_grown gr5 (by (first | omega | (simp; done) | (simp; omega))) (by intro k hk; simp at hk; omega) 1).trans (by simp [go_sem])) (by omega) (by have := b5.size; simp at *; omega) ?_; intro A2 m2 c2 w6 ow6 b6 gr6 at6; have r0 : w6.cell? ⟨w.heap.size, 0, none⟩ = some (.int .i64 p0) := (b6.cell (p := ⟨w.heap.size, 0, none⟩) hb4).trans (by first | exact u0 | simp [go_sem, u0, lt5]); have r1 : w6.cell? ⟨w.heap.size, 1, none⟩ = some (.int .i64 p1) := (b6.cell (p := ⟨w.heap.size, 1, none⟩) hb4).trans (by first | exact u1 | simp [go_sem, u1, lt5]))
                | (refine step_is_append (.tmp 43) (.tmp 46) _ rfl ?_; refine step_app_Pg _ (by rfl) _ _ (by rfl) w4.heap.size (.slice A2 m2 c2) (P1 ++ [(p0, p1)]) (by rfl) ow6 _ (P2) (by rfl) (rp4.bl (by (repeat' (first | (with_reducible exact Below.refl _ _) | (with_reducible refine bl_alloc ?_ _) | (with_reducible refine bl_drewN ?_ _) | (with_reducible refine bl_drew ?_) | (with_reducible assumption) | (with_reducible refine bl_to ?_ (by assumption)) | (with_reducible refine Below.trans ?_ (by assumption)) | (with_reducible refine Below.trans ?_ (Below.mono (by assumption) ?_)) | (with_reducible refine bl_set ?_ ?_ _) | (simp; done) | (simp; omega) | omega)))) (by rw [List.length_append]; simp; omega) (by have := b5.size; have := b6.size; simp at *; omega) T2 hLf ?_; intro A3 c3 w7 ow7 b7 gr7; have q0 : w7.cell? ⟨w.heap.size, 0, none⟩ = some (.int .i64 p0) := (b7.cell (p := ⟨w.heap.size, 0, none⟩) hb4).trans r0; have q1 : w7.cell? ⟨w.heap.size, 1, none⟩ = some (.int .i64 p1) := (b7.cell (p := ⟨w.heap.size, 1, none⟩) hb4).trans r1))
            all_goals
              have bel7 : Below w.heap.size w w7 := bl_to bel4 (by (repeat' (first | (with_reducible exact Below.refl _ _) | (with_reducible refine bl_alloc ?_ _) | (with_reducible refine bl_drewN ?_ _) | (with_reducible refine bl_drew ?_) | (with_reducible assumption) | (with_reducible refine bl_to ?_ (by assumption)) | (with_reducible refine Below.trans ?_ (by assumption)) | (with_reducible refine Below.trans ?_ (Below.mono (by assumption) ?_)) | (with_reducible refine bl_set ?_ ?_ _) | (simp; done) | (simp; omega) | omega)))
              have sz7 : w.heap.size ≤ w4.heap.size := bel4.size
              go_wp2
              all_goals exact bodyPost_ret (v := .tuple #[.slice A3 T2.length c3, .bool true]) (by simp [results, Tryz.results34, go_sem]) rfl ⟨A3, c3, true, by first | rfl | (rw [hT2]), by first | exact own_lo ow7 sz7 | (rw [hT2]; exact own_lo ow7 sz7), bel7⟩
      · rw [hlt2] at cl
        have CL := Lib.hid cl
        clear cl hpair hbo
        go_wp2
        (refine wp_region_quiet_below (by kernel_rfl) (by kernel_rfl) ?_; (repeat (first | go_big_quiet_skip | (go_big_quiet_want; go_big_quiet_op; (first | go_big_quiet_on | (apply Exists.intro; refine ⟨fun _ => ?_, ?_⟩; (focus (first | (go_at_call 51; exact Calls.regrown_of (CL.out _)) | fail)); go_big_quiet_on))))); refine wpQuiet_nil ?_; (intro wq hwq; have bq := rg_below hwq; clear hwq))
        go_wp2
        go_roundw
        case rel => exact ⟨n + 1, by omega, by go_num, fun j hj => by by_cases ej : j = n; (· rw [ej]; exact hlt2); (· exact HA.out j (by omega)), bw.trans (bq.mono bw.size)⟩
        case measure => simp [intOf]; omega
    · have hne : n = l.length := by omega
      have hned : ((n : Int) == (l.length : Int)) = true := by rw [hne]; simp
      have hnl' : ¬ (n : Int) < (l.length : Int) := by omega
      have hnd : decide (n < l.length) = false := by simpa using hnl
      have hfin : Hid (insF ltP (p0, p1) l = l.take n ++ (p0, p1) :: l.drop n) := insP_at hn HA.out (fun h => absurd h hnl) (fun h => absurd h hnl)
      have rt := RdP.take rd hn
      have rp := RdP.drop rd hn
      clear hne rd
      go_wp2
      (refine wp_region_quiet_below (by kernel_rfl) (by kernel_rfl) ?_; (repeat (first | go_big_quiet_skip | (go_big_quiet_want; go_big_quiet_op; (first | go_big_quiet_on | (apply Exists.intro; refine ⟨fun _ => ?_, ?_⟩; (focus (first | (go_at_call 51; exact Calls.regrown_of (lessP_any _ _ _ _ _)) | fail)); go_big_quiet_on))))); refine wpQuiet_nil ?_; (intro wq hwq; have bq := rg_below hwq; clear hwq))
      clear Q0 Q1
      have b0 := (bq.cell (p := ⟨w.heap.size, 0, none⟩) hb2).trans b0
      have b1 := (bq.cell (p := ⟨w.heap.size, 1, none⟩) hb2).trans b1
      have rt := rt.bl bq
      have rp := rp.bl bq
      have bel3 := bl_to bel bq
      have hb3 : w.heap.size < wq.heap.size := Nat.lt_of_lt_of_le hb2 bq.size
      clear bw bq hb2 bel
      go_wp2
      go_big_quiet (fail)
      obtain ⟨w3, hw3⟩ : ∃ x, x = wq := ⟨_, rfl⟩
      subst hw3
      have Q0 := True.intro
      have Q1 := True.intro
      have E0 := True.intro
      have E1 := True.intro
      clear Q0 Q1 E0 E1
      have bel4 := bl_drewN bel3 nq
      have e04 : (w3.drewN nq).cell? ⟨w.heap.size, 0, none⟩ = some (.int .i64 p0) := b0
      have e14 : (w3.drewN nq).cell? ⟨w.heap.size, 1, none⟩ = some (.int .i64 p1) := b1
      have hb4 : w.heap.size < (w3.drewN nq).heap.size := hb3
      have rt4 := rt.bl (bl_drewN (Below.refl _ _) nq)
      have rp4 := rp.bl (bl_drewN (Below.refl _ _) nq)
      clear b0 b1 bel3 rt rp hb3
      generalize w3.drewN nq = w4 at *
      have lt1 : (l.take n).length ≤ 100 := by rw [List.length_take]; omega
      have hLf : l.take n ++ [(p0, p1)] ++ l.drop n = insF ltP (p0, p1) l := by rw [hfin.out]; simp
      have hdl : (l.drop n).length ≤ 100 := by rw [List.length_drop]; omega
      generalize hT2 : insF ltP (p0, p1) l = T2 at *
      generalize l.take n = P1 at *
      generalize l.drop n = P2 at *
      clear hfin
      go_wp2
      go_region_held3 (fun w' => w'.cell? ⟨w.heap.size, 0, none⟩ = some (.int .i64 p0) ∧ w'.cell? ⟨w.heap.size, 1, none⟩ = some (.int .i64 p1))
        (first | exact ⟨u0, u1⟩ | exact ⟨r0, r1⟩ | exact ⟨q0, q1⟩ | go_keep)
        (first
          | (refine step_is_append (.tmp 36) (.tmp 39) _ rfl ?_; refine step_app_Pg _ (by rfl) _ _ (by rfl) w4.heap.size _ [] (by rfl) (by first | exact own_new0d (Nat.le_refl _) rfl | exact own_new0d (by simp) (by simp) | exact ((own_new0 (Nat.le_refl _) rfl).alloc _).drew) _ (P1) (by rfl) (rt4.bl (by (repeat' (first | (with_reducible exact Below.refl _ _) | (with_reducible refine bl_alloc ?_ _) | (with_reducible refine bl_drewN ?_ _) | (with_reducible refine bl_drew ?_) | (with_reducible assumption) | (with_reducible refine bl_to ?_ (by assumption)) | (with_reducible refine Below.trans ?_ (by assumption)) | (with_reducible refine Below.trans ?_ (Below.mono (by assumption) ?_)) | (with_reducible refine bl_set ?_ ?_ _) | (simp; done) | (simp; omega) | omega)))) (by simp; omega) (by (first | omega | (simp; done) | (simp; omega))) (P1) (by rfl) ?_; intro A1 c5 w5 ow5 b5 gr5; replace gr5 : World.grownBy _ w5 (some _) := gr5; have lt5 : w.heap.size < w5.heap.size := Nat.lt_of_lt_of_le (by simp; omega) b5.size; have u0 : w5.cell? ⟨w.heap.size, 0, none⟩ = some (.int .i64 p0) := (b5.cell (p := ⟨w.heap.size, 0, none⟩) hb4).trans (by simp [go_sem, e04, hb4]); have u1 : w5.cell? ⟨w.heap.size, 1, none⟩ = some (.int .i64 p1) := (b5.cell (p := ⟨w.heap.size, 1, none⟩) hb4).trans (by simp [go_sem, e14, hb4]))
          | (refine step_is_append (.tmp 40) (.tmp 42) _ rfl ?_; refine step_app_P1 _ (by rfl) _ _ (by rfl) w4.heap.size (.slice A1 (P1).length c5) (P1) (by rfl) (by first | exact ow5 | exact ow5.alloc _) _ p0 p1 (by rfl) (by first | (simp [go_sem]; done) | exact (cell_grown gr5 (by (first | omega | (simp; done) | (simp; omega))) (by intro k hk; simp at hk; omega) 0).trans (by simp [go_sem])) (by first | (simp [go_sem]; done) | exact (cell_grown gr5 (by (first | omega | (simp; done) | (simp; omega))) (by intro k hk; simp at hk; omega) 1).trans (by simp [go_sem])) (by omega) (by have := b5.size; simp at *; omega) ?_; intro A2 m2 c2 w6 ow6 b6 gr6 at6; have r0 : w6.cell? ⟨w.heap.size, 0, none⟩ = some (.int .i64 p0) := (b6.cell (p := ⟨w.heap.size, 0, none⟩) hb4).trans (by first | exact u0 | simp [go_sem, u0, lt5]); have r1 : w6.cell? ⟨w.heap.size, 1, none⟩ = some (.int .i64 p1) := (b6.cell (p := ⟨w.heap.size, 1, none⟩) hb4).trans (by first | exact u1 | simp [go_sem, u1, lt5]))
          | (refine step_is_append (.tmp 43) (.tmp 46) _ rfl ?_; refine step_app_Pg _ (by rfl) _ _ (by rfl) w4.heap.size (.slice A2 m2 c2) (P1 ++ [(p0, p1)]) (by rfl) ow6 _ (P2) (by rfl) (rp4.bl (by (repeat' (first | (with_reducible exact Below.refl _ _) | (with_reducible refine bl_alloc ?_ _) | (with_reducible refine bl_drewN ?_ _) | (with_reducible refine bl_drew ?_) | (with_reducible assumption) | (with_reducible refine bl_to ?_ (by assumption)) | (with_reducible refine Below.trans ?_ (by assumption)) | (with_reducible refine Below.trans ?_ (Below.mono (by assumption) ?_)) | (with_reducible refine bl_set ?_ ?_ _) | (simp; done) | (simp; omega) | omega)))) (by rw [List.length_append]; simp; omega) (by have := b5.size; have := b6.size; simp at *; omega) T2 hLf ?_; intro A3 c3 w7 ow7 b7 gr7; have q0 : w7.cell? ⟨w.heap.size, 0, none⟩ = some (.int .i64 p0) := (b7.cell (p := ⟨w.heap.size, 0, none⟩) hb4).trans r0; have q1 : w7.cell? ⟨w.heap.size, 1, none⟩ = some (.int .i64 p1) := (b7.cell (p := ⟨w.heap.size, 1, none⟩) hb4).trans r1))
      all_goals
        have bel7 : Below w.heap.size w w7 := bl_to bel4 (by (repeat' (first | (with_reducible exact Below.refl _ _) | (with_reducible refine bl_alloc ?_ _) | (with_reducible refine bl_drewN ?_ _) | (with_reducible refine bl_drew ?_) | (with_reducible assumption) | (with_reducible refine bl_to ?_ (by assumption)) | (with_reducible refine Below.trans ?_ (by assumption)) | (with_reducible refine Below.trans ?_ (Below.mono (by assumption) ?_)) | (with_reducible refine bl_set ?_ ?_ _) | (simp; done) | (simp; omega) | omega)))
        have sz7 : w.heap.size ≤ w4.heap.size := bel4.size
        go_wp2
        all_goals exact bodyPost_ret (v := .tuple #[.slice A3 T2.length c3, .bool true]) (by simp [results, Tryz.results34, go_sem]) rfl ⟨A3, c3, true, by first | rfl | (rw [hT2]), by first | exact own_lo ow7 sz7 | (rw [hT2]; exact own_lo ow7 sz7), bel7⟩
end Go.Proofs.YthgllpocljeegaaGreatDoor
