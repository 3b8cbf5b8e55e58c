/- membersOf, gainOf, MostGain and GainList of the program; l09Bits and l32Part of the reference. -/
import Derived.Test.YtloienidakomdaaGain0
import Derived.Maps.AppendAt
namespace Go.Proofs.Ytloienidakomdaa
open Go.RowKit

/-- 'append(v, y)' at []Job, v a row of the call's own: y lies in a block of its own -/
theorem wpList_app_J (w : World) {ops : Array Oper} {rest : List Oper} {o : Oper} {a : Act} {Q : Exit → Act → World → Prop} (hgd : o.guard = none) (s x : Operand)
    (ho : o.op = .call { callee := .builtin .append, args := #[s, x], argTypes := #[26, 26] })
    (lo : Nat) (v : Value) (l : List (Int × Int × Int)) (hs : a.eval s = v) (hown : w.ownsRow lo 44 3 v l.length (cJ l))
    (g : Nat) (y : Int × Int × Int) (hx : a.eval x = .slice (some ⟨g, 0, none⟩) 1 1) (hc0 : w.cell? ⟨g, 0, none⟩ = some (.int .i64 y.1)) (hc1 : w.cell? ⟨g, 1, none⟩ = some (.int .i64 y.2.1)) (hc2 : w.cell? ⟨g, 2, none⟩ = some (.int .i64 y.2.2)) (hl : l.length ≤ 4194304) (hbase : lo ≤ w.heap.size)
    (h : ∀ v' w', w'.ownsRow lo 44 3 v' (l ++ [y]).length (cJ (l ++ [y])) → Below lo w w' → w.grownBy w' v.ownBlock → (v'.ownBlock = v.ownBlock ∨ v'.ownBlock = some w.heap.size) → wpList Try.prog ops Q rest (a.put o.dst v') w') : wpList Try.prog ops Q (o :: rest) a w := by
  obtain ⟨i0, hi0, hz0, hz1, hz2⟩ := info_parts info_Job
  refine wpList_append_own_at w hgd s x 26 ho lo 44 i0 (.agg #[.int .i64 0, .int .i64 0, .int .i64 0]) 3 24 Try.underlying26 hi0 hz0 hz1 hz2 rfl (by decide) v l.length (cJ l) hs hown ⟨g, 0, none⟩ 1 1 [.int .i64 y.1, .int .i64 y.2.1, .int .i64 y.2.2] hx rfl ?_ ?_ (by unfold maxLen; omega) (by omega) hbase ?_
  · intro j u hj
    match j, hj with
    | 0, hj => simp at hj; subst hj; simpa [Addr.add] using hc0
    | 1, hj => simp at hj; subst hj; simpa [Addr.add] using hc1
    | 2, hj => simp at hj; subst hj; simpa [Addr.add] using hc2
  · intro u hu
    simp at hu
    rcases hu with rfl | rfl | rfl <;> rfl
  · intro v' w' own' gr _ at'
    exact h v' w' (by rw [List.length_append, cJ_append]; exact own') ((Below.refl lo w).grown gr hbase (fun k hk => (hown.lt k hk).1)) gr at'

set_option maxHeartbeats 1600000 in
theorem members_any (s n : Nat) (w : World) (hs : s ≤ 255) (hn : n ≤ 8) : Calls Try.prog 44 #[.int .i64 (s : Int), .int .i64 (n : Int)] w (NewRow 3 1 (memS s n).length (cI (memS s n)) w) := by
  have own1 : (w.alloc (Obj.cells #[] 3)).ownsRow w.heap.size 3 1 (.slice (some ⟨w.heap.size, 0, none⟩) 0 0) (memS s 0).length (cI (memS s 0)) := own_new0 (Nat.le_refl _) rfl
  go_enter Try.func44, Try.ntmps44
  go_wp2
  go_loopw [5, 6] (fun v i wr => ∃ k : Nat, k ≤ n ∧ i = .int .i64 k ∧ wr.ownsRow w.heap.size 3 1 v (memS s k).length (cI (memS s k)) ∧ Below w.heap.size w wr ∧ w.heap.size ≤ wr.heap.size) (fun _ i _ => n - (intOf i).toNat)
  case atStart => exact ⟨0, Nat.zero_le _, rfl, own1, by (repeat' (first | (with_reducible exact Below.refl _ _) | (with_reducible refine bl_alloc ?_ _) | (with_reducible refine bl_drewN ?_ _) | (with_reducible refine bl_drew ?_) | (with_reducible assumption) | (with_reducible refine bl_to ?_ (by assumption)) | (with_reducible refine Below.trans ?_ (by assumption)) | (with_reducible refine Below.trans ?_ (Below.mono (by assumption) ?_)) | (with_reducible refine bl_set ?_ ?_ _) | (simp; done) | (simp; omega) | omega)), by simp⟩
  case round =>
    clear own1
    obtain ⟨k, hk, rfl, ow, bel, szr⟩ := hrel
    have hml := memS_len s k
    by_cases hlt : k < n
    · have hlt' : (k : Int) < (n : Int) := by omega
      have k0 : (0 : Int) ≤ (k : Int) := by omega
      have k9 : (k : Int) < 64 := by omega
      have hba := bt_and s k hs
      cases hb : bt s k
      · have hh : Hid (memS s (k + 1) = memS s k) := by show _ = _; rw [memS, hb]; rfl
        have hne : ¬ (((s / 2 ^ k % 2 : Nat) : Int) = 1) := by simp [bt] at hb; omega
        have g1 : (bits .and .i64 ((s : Int) / 2 ^ k) 1 == 1) = false := by rw [hba]; simpa using hne
        have g2 : ¬ bits .and .i64 ((s : Int) / 2 ^ k) 1 = 1 := by rw [hba]; exact hne
        clear hba hb hne
        go_wp2
        go_roundw
        case rel => exact ⟨k + 1, by omega, by go_num, by rw [hh.out]; exact ow, bel, szr⟩
        case measure => simp [intOf]; omega
      · have hh : Hid (memS s (k + 1) = memS s k ++ [(k : Int)]) := by show _ = _; rw [memS, hb]; rfl
        have hne : ((s / 2 ^ k % 2 : Nat) : Int) = 1 := by simp [bt] at hb; omega
        have g2 : bits .and .i64 ((s : Int) / 2 ^ k) 1 = 1 := by rw [hba]; exact hne
        clear hba hb hne
        go_wp2_with (at_builtin; refine wpList_app_int _ rfl _ _ rfl w.heap.size _ _ rfl (ow.alloc _) _ (k : Int) rfl ?_ (by omega) (by (first | omega | (simp; done) | (simp; omega))) ?_; rotate_left; intro v2 w3 ow3 bel3)
        · have bel4 : Below w.heap.size w w3 := Below.trans (bl_alloc bel _) (bel3.mono (by omega))
          go_roundw
          case rel => exact ⟨k + 1, by omega, by go_num, by rw [hh.out]; exact ow3, bel4, bel4.size⟩
          case measure => simp [intOf]; omega
        all_goals (simp [go_sem]; done)
    · obtain rfl : k = n := by omega
      have hlt' : ¬ (k : Int) < (k : Int) := by omega
      obtain ⟨A, c, rfl⟩ := own_form ow
      go_wp2
      go_ret
      exact ⟨A, c, rfl, ow, bel⟩
set_option maxHeartbeats 1600000 in
theorem bits9_any (s : Nat) (w : World) (hs : s ≤ 255) : Calls Try.prog 43 #[.int .i64 (s : Int)] w (NewRow 3 1 (memS s 8).length (cI (memS s 8)) w) := by
  have own1 : (w.alloc (Obj.cells #[] 3)).ownsRow w.heap.size 3 1 (.slice (some ⟨w.heap.size, 0, none⟩) 0 0) (memS s 0).length (cI (memS s 0)) := own_new0 (Nat.le_refl _) rfl
  go_enter Try.func43, Try.ntmps43
  go_wp2
  go_loopw [3, 4] (fun v i wr => ∃ k : Nat, k ≤ 8 ∧ i = .int .i64 k ∧ wr.ownsRow w.heap.size 3 1 v (memS s k).length (cI (memS s k)) ∧ Below w.heap.size w wr ∧ w.heap.size ≤ wr.heap.size) (fun _ i _ => 8 - (intOf i).toNat)
  case atStart => exact ⟨0, Nat.zero_le _, rfl, own1, by (repeat' (first | (with_reducible exact Below.refl _ _) | (with_reducible refine bl_alloc ?_ _) | (with_reducible refine bl_drewN ?_ _) | (with_reducible refine bl_drew ?_) | (with_reducible assumption) | (with_reducible refine bl_to ?_ (by assumption)) | (with_reducible refine Below.trans ?_ (by assumption)) | (with_reducible refine Below.trans ?_ (Below.mono (by assumption) ?_)) | (with_reducible refine bl_set ?_ ?_ _) | (simp; done) | (simp; omega) | omega)), by simp⟩
  case round =>
    clear own1
    obtain ⟨k, hk, rfl, ow, bel, szr⟩ := hrel
    have hml := memS_len s k
    by_cases hlt : k < 8
    · have hlt' : (k : Int) < 8 := by omega
      have k0 : (0 : Int) ≤ (k : Int) := by omega
      have k9 : (k : Int) < 64 := by omega
      have hba := bt_and s k hs
      cases hb : bt s k
      · have hh : Hid (memS s (k + 1) = memS s k) := by show _ = _; rw [memS, hb]; rfl
        have hne : ¬ (((s / 2 ^ k % 2 : Nat) : Int) = 1) := by simp [bt] at hb; omega
        have g1 : (bits .and .i64 ((s : Int) / 2 ^ k) 1 == 1) = false := by rw [hba]; simpa using hne
        have g2 : ¬ bits .and .i64 ((s : Int) / 2 ^ k) 1 = 1 := by rw [hba]; exact hne
        clear hba hb hne
        go_wp2
        go_roundw
        case rel => exact ⟨k + 1, by omega, by go_num, by rw [hh.out]; exact ow, bel, szr⟩
        case measure => simp [intOf]; omega
      · have hh : Hid (memS s (k + 1) = memS s k ++ [(k : Int)]) := by show _ = _; rw [memS, hb]; rfl
        have hne : ((s / 2 ^ k % 2 : Nat) : Int) = 1 := by simp [bt] at hb; omega
        have g2 : bits .and .i64 ((s : Int) / 2 ^ k) 1 = 1 := by rw [hba]; exact hne
        clear hba hb hne
        go_wp2_with (at_builtin; refine wpList_app_int _ rfl _ _ rfl w.heap.size _ _ rfl (ow.alloc _) _ (k : Int) rfl ?_ (by omega) (by (first | omega | (simp; done) | (simp; omega))) ?_; rotate_left; intro v2 w3 ow3 bel3)
        · have bel4 : Below w.heap.size w w3 := Below.trans (bl_alloc bel _) (bel3.mono (by omega))
          go_roundw
          case rel => exact ⟨k + 1, by omega, by go_num, by rw [hh.out]; exact ow3, bel4, bel4.size⟩
          case measure => simp [intOf]; omega
        all_goals (simp [go_sem]; done)
    · obtain rfl : k = 8 := by omega
      obtain ⟨A, c, rfl⟩ := own_form ow
      go_wp2
      go_ret
      exact ⟨A, c, rfl, ow, bel⟩

set_option maxHeartbeats 1600000 in
set_option maxRecDepth 100000 in
theorem part_any (v : Value) (l : List (Int × Int × Int)) (s : Nat) (w : World) (h1 : RdJ w v l) (h8 : l.length ≤ 8) (hs : s ≤ 255) : Calls Try.prog 42 #[v, .int .i64 (s : Int)] w (NewRow 44 3 (partS l s l.length).length (cJ (partS l s l.length)) w) := by
  obtain ⟨A0, c0, rfl, hc, hm⟩ := h1.form
  unfold maxLen at hm
  have own1 : (w.alloc (Obj.cells #[] 44)).ownsRow w.heap.size 44 3 (.slice (some ⟨w.heap.size, 0, none⟩) 0 0) (partS l s 0).length (cJ (partS l s 0)) := own_new0 (Nat.le_refl _) rfl
  go_enter Try.func42, Try.ntmps42
  go_wp2
  go_loopw [5, 6] (fun v i wr => ∃ k : Nat, k ≤ l.length ∧ i = .int .i64 k ∧ wr.ownsRow w.heap.size 44 3 v (partS l s k).length (cJ (partS l s k)) ∧ Below w.heap.size w wr ∧ w.heap.size ≤ wr.heap.size) (fun _ i _ => l.length - (intOf i).toNat)
  case atStart => exact ⟨0, Nat.zero_le _, rfl, own1, by (repeat' (first | (with_reducible exact Below.refl _ _) | (with_reducible refine bl_alloc ?_ _) | (with_reducible refine bl_drewN ?_ _) | (with_reducible refine bl_drew ?_) | (with_reducible assumption) | (with_reducible refine bl_to ?_ (by assumption)) | (with_reducible refine Below.trans ?_ (by assumption)) | (with_reducible refine Below.trans ?_ (Below.mono (by assumption) ?_)) | (with_reducible refine bl_set ?_ ?_ _) | (simp; done) | (simp; omega) | omega)), by simp⟩
  case round =>
    clear own1
    obtain ⟨k, hk, rfl, ow, bel, szr⟩ := hrel
    have hml := partS_len l s k
    by_cases hlt : k < l.length
    · have hlt' : (k : Int) < (l.length : Int) := by omega
      have k0 : (0 : Int) ≤ (k : Int) := by omega
      have k9 : (k : Int) < 64 := by omega
      have hba := bt_and s k hs
      cases hb : bt s k
      · have hh : Hid (partS l s (k + 1) = partS l s k) := by show _ = _; rw [partS, hb]; rfl
        have hne : ¬ (((s / 2 ^ k % 2 : Nat) : Int) = 1) := by simp [bt] at hb; omega
        have g1 : (bits .and .i64 ((s : Int) / 2 ^ k) 1 == 1) = false := by rw [hba]; simpa using hne
        have g2 : ¬ bits .and .i64 ((s : Int) / 2 ^ k) 1 = 1 := by rw [hba]; exact hne
        clear hba hb hne h1
        go_wp2
        go_roundw
        case rel => exact ⟨k + 1, by omega, by go_num, by rw [hh.out]; exact ow, bel, szr⟩
        case measure => simp [intOf]; omega
      · have hh : Hid (partS l s (k + 1) = partS l s k ++ [gJ l k]) := by show _ = _; rw [partS, hb]; rfl
        have hne : ((s / 2 ^ k % 2 : Nat) : Int) = 1 := by simp [bt] at hb; omega
        have g2 : bits .and .i64 ((s : Int) / 2 ^ k) 1 = 1 := by rw [hba]; exact hne
        obtain ⟨g, o, rfl, _, e0, e1, e2⟩ := RdJ.at_ (h1.bl bel) hlt
        clear hba hb hne h1
        go_wp2_with (at_builtin; refine wpList_app_J _ rfl _ _ rfl w.heap.size _ _ rfl (ow.alloc _) _ (gJ l k) rfl ?_ ?_ ?_ (by omega) (by (first | omega | (simp; done) | (simp; omega))) ?_; rotate_left 3; intro v2 w3 ow3 bel3 _ _)
        · have bel4 : Below w.heap.size w w3 := Below.trans (bl_alloc bel _) (bel3.mono (by omega))
          go_roundw
          case rel => exact ⟨k + 1, by omega, by go_num, by rw [hh.out]; exact ow3, bel4, bel4.size⟩
          case measure => simp [intOf]; omega
        all_goals (simp [go_sem]; done)
    · obtain rfl : k = l.length := by omega
      have hlt' : ¬ (l.length : Int) < (l.length : Int) := by omega
      obtain ⟨A, c, rfl⟩ := own_form ow
      clear h1
      go_wp2
      go_ret
      exact ⟨A, c, rfl, ow, bel⟩

set_option maxHeartbeats 1600000 in
set_option maxRecDepth 100000 in
theorem gainOf_any (v : Value) (l : List (Int × Int × Int)) (s : Nat) (w : World) (h1 : RdJ w v l) (hj : jobsB l = true) (hs : s ≤ 255) : Calls Try.prog 41 #[v, .int .i64 (s : Int)] w fun e w' => e = .returned (.int .i64 (gofF l s)) ∧ Below w.heap.size w w' := by
  obtain ⟨A0, c0, rfl, hc, hm⟩ := h1.form
  unfold maxLen at hm
  have h8 : l.length ≤ 8 := by simp [jobsB] at hj; exact hj.1
  have own1 : (w.alloc (Obj.cells #[] 44)).ownsRow w.heap.size 44 3 (.slice (some ⟨w.heap.size, 0, none⟩) 0 0) (atJ l ((memS s l.length).take 0)).length (cJ (atJ l ((memS s l.length).take 0))) := own_new0 (Nat.le_refl _) rfl
  have HJ := Lib.hid hj
  clear hj
  go_enter Try.func41, Try.ntmps41
  go_wp2_with (go_at_call 44; refine (members_any s l.length _ hs h8).mono ?_; rintro e w1 ⟨A1, c1, rfl, ow1, b1⟩; obtain ⟨k1, f1, z1⟩ := bcell b1)
  have bel1 : Below w.heap.size w w1 := by (repeat' (first | (with_reducible exact Below.refl _ _) | (with_reducible refine bl_alloc ?_ _) | (with_reducible refine bl_drewN ?_ _) | (with_reducible refine bl_drew ?_) | (with_reducible assumption) | (with_reducible refine bl_to ?_ (by assumption)) | (with_reducible refine Below.trans ?_ (by assumption)) | (with_reducible refine Below.trans ?_ (Below.mono (by assumption) ?_)) | (with_reducible refine bl_set ?_ ?_ _) | (simp; done) | (simp; omega) | omega))
  have sz1 : w.heap.size + 1 ≤ w1.heap.size := by have := b1.size; simp at this; omega
  have own2 := own_bl own1 b1
  have ml := memS_len s l.length
  have mm : ∀ x ∈ memS s l.length, 0 ≤ x ∧ x < (l.length : Int) := fun x hx => memS_mem hx
  have MM := Lib.hid mm
  clear k1 f1 z1 b1 own1 mm
  have ML : Hid (memS s l.length = memS s l.length) := rfl
  obtain ⟨M, hM⟩ : ∃ M, memS s l.length = M := ⟨_, rfl⟩
  rw [hM] at ow1 own2 ml MM ⊢
  have HM := Lib.hid hM
  clear hM ML
  go_loopw [5, 6, 15] (fun v q i wr => ∃ j : Nat, j ≤ M.length ∧ i = .int .i64 j ∧ q = .int .i64 (sgN l M j) ∧ wr.ownsRow w.heap.size 44 3 v (atJ l (M.take j)).length (cJ (atJ l (M.take j))) ∧ wr.ownsRow (w.heap.size + 1) 3 1 (.slice A1 M.length c1) M.length (cI M) ∧ (∀ kb, v.ownBlock = some kb → kb = w.heap.size ∨ w1.heap.size ≤ kb) ∧ w1.heap.size ≤ wr.heap.size ∧ Below w.heap.size w wr ∧ w.heap.size ≤ wr.heap.size) (fun _ _ i _ => M.length - (intOf i).toNat)
  case atStart => exact ⟨0, Nat.zero_le _, rfl, rfl, own2, own_lo ow1 (by simp), fun kb h => .inl (by simp [Value.ownBlock] at h; exact h.symm), Nat.le_refl _, bel1, by omega⟩
  case round =>
    have INM := Lib.hid ow1.lt
    clear own2 ow1 bel1
    obtain ⟨j, hjl, rfl, rfl, ow, owM, hvb, szq, bel, szr⟩ := hrel
    have hrd : RdI _ (.slice A1 M.length c1) M := Rd.of_own owM
    by_cases hlt : j < M.length
    · have hlt' : (j : Int) < (M.length : Int) := by omega
      have j0 : (0 : Int) ≤ (j : Int) := by omega
      obtain ⟨gm, om, rfl, hgm, qm⟩ := hrd.look (by omega)
      have em := qm j _ (cI_get hlt)
      obtain ⟨x0, xn⟩ := MM.out _ (gi_mem hlt)
      obtain ⟨x, hx⟩ := Int.eq_ofNat_of_zero_le x0
      obtain ⟨g, o, rfl, _, e0, e1, e2⟩ := RdJ.at_ (h1.bl bel) (k := x) (by omega)
      have sb := sgN_bd HJ.out MM.out j (by omega)
      have jb := (jobB_bd HJ.out (k := x) (by omega)).2
      have ss : Hid (sgN l M (j + 1) = sgN l M j + (gJ l x).2.2) := by show _ = _; rw [sgN, hx]; rfl
      have hgw : g < w.heap.size := by
        obtain ⟨g', o', e, hg', _⟩ := RdJ.at_ h1 (k := x) (by omega)
        cases e
        exact hg'
      have aa : Hid (atJ l (M.take (j + 1)) = atJ l (M.take j) ++ [gJ l x]) := by show _ = _; rw [atJ_take hlt, hx]; rfl
      have al : (atJ l (M.take j)).length ≤ 8 := by simp [atJ]; omega
      rw [hx] at em xn
      have x1 : (x : Int) < (l.length : Int) := xn
      have x2 : (0 : Int) ≤ (x : Int) := by omega
      clear qm h1 x0 hx
      go_wp2_with (at_builtin; refine wpList_app_J _ rfl _ _ rfl w.heap.size _ _ rfl (ow.alloc _) _ (gJ l x) rfl ?_ ?_ ?_ (by omega) (by (first | omega | (simp; done) | (simp; omega))) ?_; rotate_left 3; intro v2 w3 ow3 bel3 gr3 at3; have d2 : w3.cell? ⟨g, o + x * 3 + 2, none⟩ = some (.int .i64 (gJ l x).2.2) := (bel3.cell (p := ⟨g, o + x * 3 + 2, none⟩) hgw).trans ((World.cell?_alloc_lt _ _ ⟨g, o + x * 3 + 2, none⟩ (by simp; omega)).trans e2))
      · have bel4 : Below w.heap.size w w3 := Below.trans (bl_alloc bel _) (bel3.mono (by omega))
        have owM3 := (owM.alloc (Obj.cells #[.int .i64 (gJ l x).1, .int .i64 (gJ l x).2.1, .int .i64 (gJ l x).2.2] 44)).kept gr3 (by
          cases e : (Value.slice (some ⟨gm, om, none⟩) M.length c1).ownBlock with
          | none => exact .inl rfl
          | some kb =>
            refine .inr fun e2 => ?_
            have h1 := INM.out kb e
            simp only [World.size_alloc] at h1
            rcases hvb kb e2.symm with h | h <;> omega)
        have hvb3 : ∀ kb, v2.ownBlock = some kb → kb = w.heap.size ∨ w1.heap.size ≤ kb := fun kb h => by
          rcases at3 with q | q
          · exact hvb kb (q ▸ h)
          · rw [q] at h; cases h; right; simp; omega
        have szq3 : w1.heap.size ≤ w3.heap.size := by have := gr3.size; simp at this; omega
        go_roundw
        case rel => exact ⟨j + 1, by omega, by go_num, by rw [ss.out], by rw [aa.out]; exact ow3, owM3, hvb3, szq3, bel4, bel4.size⟩
        case measure => simp [intOf]; omega
      all_goals (simp [go_sem]; done)
    · obtain rfl : j = M.length := by omega
      have hlt' : ¬ (M.length : Int) < (M.length : Int) := by omega
      have e1 : Hid (atJ l (M.take M.length) = partS l s l.length) := by show _ = _; rw [List.take_length, ← HM.out, atJ_mem]
      have e2 : Hid (sgN l M M.length = gnS l s l.length) := by show _ = _; rw [← HM.out, sgN_mem]
      have pl := partS_len l s l.length
      rw [e1.out] at ow
      obtain ⟨A, c, rfl⟩ := own_form ow
      clear h1 owM hrd
      cases hb : aitF (partS l s l.length)
      · have HG : Hid (gofF l s = -1) := by show _ = _; rw [gofF, hb]; rfl
        go_wp2_with (go_at_call 22; refine (aitI_any _ (partS l s l.length) _ (Rd.of_own ow) (by omega)).mono ?_; rintro e w5 ⟨rfl, b5⟩; obtain ⟨k5, f5, z5⟩ := bcell b5)
        go_ret
        exact ⟨ret_int HG.out.symm, by (repeat' (first | (with_reducible exact Below.refl _ _) | (with_reducible refine bl_alloc ?_ _) | (with_reducible refine bl_drewN ?_ _) | (with_reducible refine bl_drew ?_) | (with_reducible assumption) | (with_reducible refine bl_to ?_ (by assumption)) | (with_reducible refine Below.trans ?_ (by assumption)) | (with_reducible refine Below.trans ?_ (Below.mono (by assumption) ?_)) | (with_reducible refine bl_set ?_ ?_ _) | (simp; done) | (simp; omega) | omega))⟩
      · have HG : Hid (gofF l s = gnS l s l.length) := by show _ = _; rw [gofF, hb]; rfl
        go_wp2_with (go_at_call 22; refine (aitI_any _ (partS l s l.length) _ (Rd.of_own ow) (by omega)).mono ?_; rintro e w5 ⟨rfl, b5⟩; obtain ⟨k5, f5, z5⟩ := bcell b5)
        go_ret
        exact ⟨ret_int (by rw [HG.out, e2.out]), by (repeat' (first | (with_reducible exact Below.refl _ _) | (with_reducible refine bl_alloc ?_ _) | (with_reducible refine bl_drewN ?_ _) | (with_reducible refine bl_drew ?_) | (with_reducible assumption) | (with_reducible refine bl_to ?_ (by assumption)) | (with_reducible refine Below.trans ?_ (by assumption)) | (with_reducible refine Below.trans ?_ (Below.mono (by assumption) ?_)) | (with_reducible refine bl_set ?_ ?_ _) | (simp; done) | (simp; omega) | omega))⟩
end Go.Proofs.Ytloienidakomdaa
