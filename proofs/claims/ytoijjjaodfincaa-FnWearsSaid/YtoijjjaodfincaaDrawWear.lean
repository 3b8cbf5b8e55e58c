/- The drawn wear; lengths up to 2^20. -/
import Derived.Test.YtoijjjaodfincaaDrawBox
import Derived.Test.YtoijjjaodfincaaWears0
import Derived.Deep.RegionHeld3
namespace Go.Proofs.Ytoijjjaodfincaa
open Go.RowKit

def NewDrawnWear (N : Nat) (w0 : World) (cb : Nat) (v : Value) (L : List Int) (w : World) (en : Ending) (w' : World) : Prop :=
  ∃ (n : Int) (l : List Int) (A : Option Addr) (c : Nat), en = .returned (.agg #[.slice A l.length c, .int .i64 n]) ∧ l.length = N ∧ (1 ≤ n ∧ n ≤ 6) ∧ drH l ∧ w'.ownsRow w.heap.size 3 1 (.slice A l.length c) l.length (cI l) ∧ Cur w0 w' cb v L ∧ w.grownBy w' (some cb)
set_option maxHeartbeats 3200000 in
set_option maxRecDepth 100000 in
theorem l25Wear_any (N : Nat) (w0 : World) (cb : Nat) (v : Value) (L : List Int) (w : World) (h0 : RdB w0 v L) (hl : L.length ≤ 1048576) (hN : N ≤ 1000) (hc : Cur w0 w cb v L) :
    Calls Try.prog 83 #[.pointer (some ⟨cb, 0, none⟩), .int .i64 N] w (NewDrawnWear N w0 cb v L w) := by
  have hcl := hc.lt
  have hc1 : Cur w0 (w.alloc (.cells #[.slice none 0 0, .int .i64 0] 41)) cb v L := hc.blk (bl_alloc (Below.refl _ _) _) hcl
  go_enter Try.func83, Try.ntmps83
  go_wp2_with fail
  refine (below_any _ _ _ _ _ _ h0 hl hc1).mono ?_
  rintro e w1 ⟨n, ⟨n0, n1⟩, rfl, hc2, g1⟩
  have n1 := n1 (by omega)
  have s1 := g1.size
  simp only [World.size_alloc] at s1
  obtain ⟨k1, f1, z1⟩ := gr_keeps g1
  have st0 : BoxSt w cb w.heap.size w1.heap.size 0 1 (w1.alloc (.cells #[.slice none 0 0, .int .i64 (1 + n)] 41)) (1 + n) (.slice none 0 0) [] := by
    have q0 : w1.cell? ⟨w.heap.size, 0, none⟩ = some (.slice none 0 0) := (k1 _ _ (by simp) (by omega)).trans (by simp [go_sem])
    have q1 : w1.cell? ⟨w.heap.size, 1, none⟩ = some (.int .i64 0) := (k1 _ _ (by simp) (by omega)).trans (by simp [go_sem])
    have p0 : w1.frozen? ⟨w.heap.size, 0, none⟩ = false := (f1 _ _ (by simp) (by omega)).trans (by simp [go_sem])
    have p1 : w1.frozen? ⟨w.heap.size, 1, none⟩ = false := (f1 _ _ (by simp) (by omega)).trans (by simp [go_sem])
    have lt : w.heap.size < w1.heap.size := by omega
    exact ⟨gr_bl (gr_tr (gr_bl (World.grownBy.refl _ _) (bl_alloc (Below.refl _ _) _) (Nat.le_refl _)) g1) (bl_alloc (Below.refl _ _) _) (by omega), hcl, Nat.le_refl _, lt, by simp, by simp [go_sem], by simp [go_sem], by simp [go_sem],
      by simp [go_sem, q0, lt], by simp [go_sem, q1, lt], by simp [go_sem, p0, lt], by simp [go_sem, p1, lt], World.ownsRow_nil _ _ _ _⟩
  have hc3 : Cur w0 (w1.alloc (.cells #[.slice none 0 0, .int .i64 (1 + n)] 41)) cb v L := hc2.blk (bl_alloc (Below.refl _ _) _) hc2.lt
  have sD : w.heap.size < w1.heap.size := by omega
  clear hc hc1 hc2 g1 k1 f1 z1 s1
  go_wp2
  go_loopw [6] (fun i wr => ∃ (k : Nat) (vs : Value) (p : List Int), p.length = k ∧ k ≤ N ∧ i = .int .i64 k ∧ drH p ∧ BoxSt w cb w.heap.size w1.heap.size 0 1 wr (1 + n) vs p ∧ Cur w0 wr cb v L) (fun i _ => N - (intOf i).toNat)
  case atStart => exact ⟨0, _, [], rfl, Nat.zero_le _, rfl, fun x h => by simp at h, st0, hc3⟩
  case round =>
    clear st0 hc3
    obtain ⟨k, vs, p, hk, hkN, rfl, hp, st, hc⟩ := hrel
    obtain ⟨A, c, rfl⟩ := own_form st.ow
    have HK := Lib.hid hk
    have HP := Lib.hid hp
    have pl : p.length ≤ 1000 := by omega
    clear hk hp
    by_cases hlt : k < N
    · have hlt' : (k : Int) < (N : Int) := by omega
      have hcd := hc.drew
      have dv := st.dv
      have std := st.step (bl_drew (Below.refl _ _))
      go_wp2
      -- held
      refine wp_region_held_drew (S := fun _ => True) (by kernel_rfl) True.intro (fun hHeld => ?_)
      refine wpAnyH_take (i := 0) (oi := _) (v := ?_) rfl (by kernel_rfl) (by kernel_rfl) (by kernel_rfl) (fun _ _ _ h => h) (Or.inl ⟨by rfl, ?_⟩) (by assumption) ?_
      rotate_left
      · (intro w' hSw; (try dsimp only at hSw); go_simp; (try with_reducible rfl))
      (try simp only [Act.put, List.setIfInBounds_toArray, List.set_cons_zero, List.set_cons_succ, List.getElem_toArray, List.getElem_cons_zero, List.getElem_cons_succ])
      refine wpAnyH_take (i := 2) (oi := _) (v := ?_) rfl (by kernel_rfl) (by kernel_rfl) (by kernel_rfl) (fun _ _ _ h => h) (Or.inl ⟨by rfl, ?_⟩) (by assumption) ?_
      rotate_left
      · (intro w' hSw; (try dsimp only at hSw); go_simp; (try with_reducible rfl))
      (try simp only [Act.put, List.setIfInBounds_toArray, List.set_cons_zero, List.set_cons_succ, List.getElem_toArray, List.getElem_cons_zero, List.getElem_cons_succ])
      refine wpAnyH_ready (rs := [1, 3]) (by kernel_rfl) (by simp) ?_
      refine AllReadyH.cons (o := _) rfl (fun K hK => ?_) ?_
      · go_simp
        refine hK.out _ _ True.intro (fun hHeld2 => ?_)
        clear hK K hHeld
        have hHeld := hHeld2
        clear hHeld2
        (try simp only [Act.put, List.setIfInBounds_toArray, List.set_cons_zero, List.set_cons_succ, List.getElem_toArray, List.getElem_cons_zero, List.getElem_cons_succ])
        refine wpAnyH_ready (rs := [3]) (by kernel_rfl) (by simp) ?_
        refine AllReadyH.cons (o := _) rfl (fun K hK => ?_) ?_
        · (go_simp; go_at_call 84; refine (below_any _ _ _ _ _ _ h0 hl hcd).mono ?_; rintro e w2 ⟨x, ⟨xl, xu⟩, rfl, hc2, g2⟩; have st2 := std.draw g2; have d2 := st2.dv; have dl2 := st2.dl; have xu := xu (by omega); obtain ⟨P, hP⟩ : ∃ P, P = p ++ [x] := ⟨_, rfl⟩; have HPx := Lib.hid hP; clear hP)
          refine hK.out _ _ True.intro (fun hHeld2 => ?_)
          clear hK K hHeld
          have hHeld := hHeld2
          clear hHeld2
          (try simp only [Act.put, List.setIfInBounds_toArray, List.set_cons_zero, List.set_cons_succ, List.getElem_toArray, List.getElem_cons_zero, List.getElem_cons_succ])
          refine wpAnyH_ready (rs := [4]) (by kernel_rfl) (by simp) ?_
          refine AllReadyH.cons (o := _) rfl (fun K hK => ?_) ?_
          · go_simp
            refine hK.out _ _ True.intro (fun hHeld2 => ?_)
            clear hK K hHeld
            have hHeld := hHeld2
            clear hHeld2
            (try simp only [Act.put, List.setIfInBounds_toArray, List.set_cons_zero, List.set_cons_succ, List.getElem_toArray, List.getElem_cons_zero, List.getElem_cons_succ])
            refine wpAnyH_ready (rs := [5]) (by kernel_rfl) (by simp) ?_
            refine AllReadyH.cons (o := _) rfl (fun K hK => ?_) ?_
            · (refine step_app_ints _ (by rfl) _ _ (by rfl) (w1.heap.size + 1) (.slice A p.length c) p (by rfl) (st2.ow.alloc _) _ [x] (by rfl) (rdI_box rfl) (by simp; omega) (by have := st2.dl; simp; omega) P HPx.out.symm ?_; intro A3 c3 w3 ow3 b3; have b23 : Below (w1.heap.size + 1) w2 w3 := Below.trans ((Below.refl _ _).alloc (by have := st2.dl; omega) _) b3; have q0 := (b23.cell (p := ⟨w1.heap.size, 0, none⟩) (Nat.lt_succ_self _)).trans st2.dv; have q1 := (b23.frozen (p := ⟨w1.heap.size, 0, none⟩) (Nat.lt_succ_self _)).trans st2.df)
              refine hK.out _ _ True.intro (fun hHeld2 => ?_)
              clear hK K hHeld
              have hHeld := hHeld2
              clear hHeld2
              (try simp only [Act.put, List.setIfInBounds_toArray, List.set_cons_zero, List.set_cons_succ, List.getElem_toArray, List.getElem_cons_zero, List.getElem_cons_succ])
              refine wpAnyH_ready (rs := [6]) (by kernel_rfl) (by simp) ?_
              refine AllReadyH.cons (o := _) rfl (fun K hK => ?_) ?_
              · go_simp
                refine hK.out _ _ True.intro (fun hHeld2 => ?_)
                clear hK K hHeld
                have hHeld := hHeld2
                clear hHeld2
                (try simp only [Act.put, List.setIfInBounds_toArray, List.set_cons_zero, List.set_cons_succ, List.getElem_toArray, List.getElem_cons_zero, List.getElem_cons_succ])
                refine wpAnyH_ready (rs := [7]) (by kernel_rfl) (by simp) ?_
                refine AllReadyH.cons (o := _) rfl (fun K hK => ?_) ?_
                · go_simp
                  refine hK.out _ _ True.intro (fun hHeld2 => ?_)
                  clear hK K hHeld
                  have hHeld := hHeld2
                  clear hHeld2
                  (try simp only [Act.put, List.setIfInBounds_toArray, List.set_cons_zero, List.set_cons_succ, List.getElem_toArray, List.getElem_cons_zero, List.getElem_cons_succ])
                  refine wpAnyH_done (by kernel_rfl) ?_ _
                  have st3 := st2.app (by omega) x b23 (v' := .slice A3 P.length c3) (by rw [← HPx.out]; exact ow3)
                  have hc3 : Cur w0 (w3.setCell ⟨w1.heap.size, 0, none⟩ (.slice A3 P.length c3)) cb v L := (hc2.blk b23 (by have := st2.hc; omega)).blk ((Below.refl w1.heap.size w3).setCell (Nat.le_refl _) _) (by have := st2.hc; omega)
                  go_wp2
                  go_roundw
                  case rel => exact ⟨k + 1, _, P, by rw [HPx.out]; simp [HK.out], by omega, by go_num, fun y hy => by rw [HPx.out] at hy; rcases List.mem_append.1 hy with h | h; (· exact HP.out y h); (· rw [List.mem_singleton] at h; omega), by rw [HPx.out] at *; exact st3, hc3⟩
                  case measure => simp [intOf]; omega
                exact AllReadyH.nil
              exact AllReadyH.nil
            exact AllReadyH.nil
          exact AllReadyH.nil
        exact AllReadyH.nil
      refine AllReadyH.cons (o := _) rfl (fun K hK => ?_) ?_
      · (go_simp; go_at_call 84; refine (below_any _ _ _ _ _ _ h0 hl hcd).mono ?_; rintro e w2 ⟨x, ⟨xl, xu⟩, rfl, hc2, g2⟩; have st2 := std.draw g2; have d2 := st2.dv; have dl2 := st2.dl; have xu := xu (by omega); obtain ⟨P, hP⟩ : ∃ P, P = p ++ [x] := ⟨_, rfl⟩; have HPx := Lib.hid hP; clear hP)
        refine hK.out _ _ True.intro (fun hHeld2 => ?_)
        clear hK K hHeld
        have hHeld := hHeld2
        clear hHeld2
        (try simp only [Act.put, List.setIfInBounds_toArray, List.set_cons_zero, List.set_cons_succ, List.getElem_toArray, List.getElem_cons_zero, List.getElem_cons_succ])
        refine wpAnyH_ready (rs := [1, 4]) (by kernel_rfl) (by simp) ?_
        refine AllReadyH.cons (o := _) rfl (fun K hK => ?_) ?_
        · go_simp
          refine hK.out _ _ True.intro (fun hHeld2 => ?_)
          clear hK K hHeld
          have hHeld := hHeld2
          clear hHeld2
          (try simp only [Act.put, List.setIfInBounds_toArray, List.set_cons_zero, List.set_cons_succ, List.getElem_toArray, List.getElem_cons_zero, List.getElem_cons_succ])
          refine wpAnyH_ready (rs := [4]) (by kernel_rfl) (by simp) ?_
          refine AllReadyH.cons (o := _) rfl (fun K hK => ?_) ?_
          · go_simp
            refine hK.out _ _ True.intro (fun hHeld2 => ?_)
            clear hK K hHeld
            have hHeld := hHeld2
            clear hHeld2
            (try simp only [Act.put, List.setIfInBounds_toArray, List.set_cons_zero, List.set_cons_succ, List.getElem_toArray, List.getElem_cons_zero, List.getElem_cons_succ])
            refine wpAnyH_ready (rs := [5]) (by kernel_rfl) (by simp) ?_
            refine AllReadyH.cons (o := _) rfl (fun K hK => ?_) ?_
            · (refine step_app_ints _ (by rfl) _ _ (by rfl) (w1.heap.size + 1) (.slice A p.length c) p (by rfl) (st2.ow.alloc _) _ [x] (by rfl) (rdI_box rfl) (by simp; omega) (by have := st2.dl; simp; omega) P HPx.out.symm ?_; intro A3 c3 w3 ow3 b3; have b23 : Below (w1.heap.size + 1) w2 w3 := Below.trans ((Below.refl _ _).alloc (by have := st2.dl; omega) _) b3; have q0 := (b23.cell (p := ⟨w1.heap.size, 0, none⟩) (Nat.lt_succ_self _)).trans st2.dv; have q1 := (b23.frozen (p := ⟨w1.heap.size, 0, none⟩) (Nat.lt_succ_self _)).trans st2.df)
              refine hK.out _ _ True.intro (fun hHeld2 => ?_)
              clear hK K hHeld
              have hHeld := hHeld2
              clear hHeld2
              (try simp only [Act.put, List.setIfInBounds_toArray, List.set_cons_zero, List.set_cons_succ, List.getElem_toArray, List.getElem_cons_zero, List.getElem_cons_succ])
              refine wpAnyH_ready (rs := [6]) (by kernel_rfl) (by simp) ?_
              refine AllReadyH.cons (o := _) rfl (fun K hK => ?_) ?_
              · go_simp
                refine hK.out _ _ True.intro (fun hHeld2 => ?_)
                clear hK K hHeld
                have hHeld := hHeld2
                clear hHeld2
                (try simp only [Act.put, List.setIfInBounds_toArray, List.set_cons_zero, List.set_cons_succ, List.getElem_toArray, List.getElem_cons_zero, List.getElem_cons_succ])
                refine wpAnyH_ready (rs := [7]) (by kernel_rfl) (by simp) ?_
                refine AllReadyH.cons (o := _) rfl (fun K hK => ?_) ?_
                · go_simp
                  refine hK.out _ _ True.intro (fun hHeld2 => ?_)
                  clear hK K hHeld
                  have hHeld := hHeld2
                  clear hHeld2
                  (try simp only [Act.put, List.setIfInBounds_toArray, List.set_cons_zero, List.set_cons_succ, List.getElem_toArray, List.getElem_cons_zero, List.getElem_cons_succ])
                  refine wpAnyH_done (by kernel_rfl) ?_ _
                  have st3 := st2.app (by omega) x b23 (v' := .slice A3 P.length c3) (by rw [← HPx.out]; exact ow3)
                  have hc3 : Cur w0 (w3.setCell ⟨w1.heap.size, 0, none⟩ (.slice A3 P.length c3)) cb v L := (hc2.blk b23 (by have := st2.hc; omega)).blk ((Below.refl w1.heap.size w3).setCell (Nat.le_refl _) _) (by have := st2.hc; omega)
                  go_wp2
                  go_roundw
                  case rel => exact ⟨k + 1, _, P, by rw [HPx.out]; simp [HK.out], by omega, by go_num, fun y hy => by rw [HPx.out] at hy; rcases List.mem_append.1 hy with h | h; (· exact HP.out y h); (· rw [List.mem_singleton] at h; omega), by rw [HPx.out] at *; exact st3, hc3⟩
                  case measure => simp [intOf]; omega
                exact AllReadyH.nil
              exact AllReadyH.nil
            exact AllReadyH.nil
          exact AllReadyH.nil
        refine AllReadyH.cons (o := _) rfl (fun K hK => ?_) ?_
        · go_simp
          refine hK.out _ _ True.intro (fun hHeld2 => ?_)
          clear hK K hHeld
          have hHeld := hHeld2
          clear hHeld2
          (try simp only [Act.put, List.setIfInBounds_toArray, List.set_cons_zero, List.set_cons_succ, List.getElem_toArray, List.getElem_cons_zero, List.getElem_cons_succ])
          refine wpAnyH_ready (rs := [1]) (by kernel_rfl) (by simp) ?_
          refine AllReadyH.cons (o := _) rfl (fun K hK => ?_) ?_
          · go_simp
            refine hK.out _ _ True.intro (fun hHeld2 => ?_)
            clear hK K hHeld
            have hHeld := hHeld2
            clear hHeld2
            (try simp only [Act.put, List.setIfInBounds_toArray, List.set_cons_zero, List.set_cons_succ, List.getElem_toArray, List.getElem_cons_zero, List.getElem_cons_succ])
            refine wpAnyH_ready (rs := [5]) (by kernel_rfl) (by simp) ?_
            refine AllReadyH.cons (o := _) rfl (fun K hK => ?_) ?_
            · (refine step_app_ints _ (by rfl) _ _ (by rfl) (w1.heap.size + 1) (.slice A p.length c) p (by rfl) (st2.ow.alloc _) _ [x] (by rfl) (rdI_box rfl) (by simp; omega) (by have := st2.dl; simp; omega) P HPx.out.symm ?_; intro A3 c3 w3 ow3 b3; have b23 : Below (w1.heap.size + 1) w2 w3 := Below.trans ((Below.refl _ _).alloc (by have := st2.dl; omega) _) b3; have q0 := (b23.cell (p := ⟨w1.heap.size, 0, none⟩) (Nat.lt_succ_self _)).trans st2.dv; have q1 := (b23.frozen (p := ⟨w1.heap.size, 0, none⟩) (Nat.lt_succ_self _)).trans st2.df)
              refine hK.out _ _ True.intro (fun hHeld2 => ?_)
              clear hK K hHeld
              have hHeld := hHeld2
              clear hHeld2
              (try simp only [Act.put, List.setIfInBounds_toArray, List.set_cons_zero, List.set_cons_succ, List.getElem_toArray, List.getElem_cons_zero, List.getElem_cons_succ])
              refine wpAnyH_ready (rs := [6]) (by kernel_rfl) (by simp) ?_
              refine AllReadyH.cons (o := _) rfl (fun K hK => ?_) ?_
              · go_simp
                refine hK.out _ _ True.intro (fun hHeld2 => ?_)
                clear hK K hHeld
                have hHeld := hHeld2
                clear hHeld2
                (try simp only [Act.put, List.setIfInBounds_toArray, List.set_cons_zero, List.set_cons_succ, List.getElem_toArray, List.getElem_cons_zero, List.getElem_cons_succ])
                refine wpAnyH_ready (rs := [7]) (by kernel_rfl) (by simp) ?_
                refine AllReadyH.cons (o := _) rfl (fun K hK => ?_) ?_
                · go_simp
                  refine hK.out _ _ True.intro (fun hHeld2 => ?_)
                  clear hK K hHeld
                  have hHeld := hHeld2
                  clear hHeld2
                  (try simp only [Act.put, List.setIfInBounds_toArray, List.set_cons_zero, List.set_cons_succ, List.getElem_toArray, List.getElem_cons_zero, List.getElem_cons_succ])
                  refine wpAnyH_done (by kernel_rfl) ?_ _
                  have st3 := st2.app (by omega) x b23 (v' := .slice A3 P.length c3) (by rw [← HPx.out]; exact ow3)
                  have hc3 : Cur w0 (w3.setCell ⟨w1.heap.size, 0, none⟩ (.slice A3 P.length c3)) cb v L := (hc2.blk b23 (by have := st2.hc; omega)).blk ((Below.refl w1.heap.size w3).setCell (Nat.le_refl _) _) (by have := st2.hc; omega)
                  go_wp2
                  go_roundw
                  case rel => exact ⟨k + 1, _, P, by rw [HPx.out]; simp [HK.out], by omega, by go_num, fun y hy => by rw [HPx.out] at hy; rcases List.mem_append.1 hy with h | h; (· exact HP.out y h); (· rw [List.mem_singleton] at h; omega), by rw [HPx.out] at *; exact st3, hc3⟩
                  case measure => simp [intOf]; omega
                exact AllReadyH.nil
              exact AllReadyH.nil
            exact AllReadyH.nil
          exact AllReadyH.nil
        exact AllReadyH.nil
      exact AllReadyH.nil
    · have hlt' : ¬ (k : Int) < (N : Int) := by omega
      obtain ⟨gg, hcx, hR, hD, dl, dv, dn, df, rv, rn, rf, rg, ow⟩ := st
      go_wp2
      refine bodyPost_ret (v := .agg #[.slice A p.length c, .int .i64 (1 + n)]) (by simp [results, Try.results83, go_sem, rv, rn]) rfl ?_
      have bs : Below w.heap.size wr ((wr.setCell ⟨w.heap.size, 0, none⟩ (.slice A p.length c)).setCell ⟨w.heap.size, 1, none⟩ (.int .i64 (1 + n))) := ((Below.refl w.heap.size _).setCell (p := ⟨w.heap.size, 0, none⟩) (Nat.le_refl _) _).setCell (p := ⟨w.heap.size, 1, none⟩) (Nat.le_refl _) _
      have os := ownsRow_setCell_below (ownsRow_setCell_below ow (a := ⟨w.heap.size, 0, none⟩) (by simp; omega) (.slice A p.length c)) (a := ⟨w.heap.size, 1, none⟩) (by simp; omega) (.int .i64 (1 + n))
      exact ⟨1 + n, p, A, c, rfl, by have := HK.out; omega, by omega, HP.out, own_lo os (by omega), hc.blk bs hcx, gr_bl gg bs (Nat.le_refl _)⟩
end Go.Proofs.Ytoijjjaodfincaa
