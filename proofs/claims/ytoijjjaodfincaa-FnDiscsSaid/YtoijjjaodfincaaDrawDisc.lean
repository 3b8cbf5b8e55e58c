/- The drawn disc; lengths up to 2^20. -/
import Derived.Test.YtoijjjaodfincaaDrawBox
import Derived.Test.YtoijjjaodfincaaDiscs0
import Derived.Deep.DeepCutAuto
namespace Go.Proofs.Ytoijjjaodfincaa
open Go.RowKit

theorem and_low {x : Int} {N : Nat} (h0 : 0 ≤ x) (h1 : x ≤ 255) (hN : 1 ≤ N) (hN2 : N ≤ 256) : 0 ≤ bits .and .i64 x ((N : Int) - 1) ∧ bits .and .i64 x ((N : Int) - 1) ≤ (N : Int) - 1 := by
  obtain ⟨n, rfl⟩ := Int.eq_ofNat_of_zero_le h0
  have e : (N : Int) - 1 = ((N - 1 : Nat) : Int) := by omega
  rw [e, i64_and_nat _ _ (by omega) (by omega)]
  have : n &&& (N - 1) ≤ N - 1 := Nat.and_le_right
  omega
set_option maxHeartbeats 400000 in
theorem once_any (n : Int) (w0 : World) (cb : Nat) (v : Value) (L : List Int) (w : World) (h0 : RdB w0 v L) (hl : L.length ≤ 1048576) (hc : Cur w0 w cb v L) :
    Calls Try.prog 100 #[.pointer (some ⟨cb, 0, none⟩), .int .i64 n] w fun e w' => ∃ b : Bool, e = .returned (.bool b) ∧ Cur w0 w' cb v L ∧ w.grownBy w' (some cb) := by
  go_enter Try.func100, Try.ntmps100
  go_wp2_with fail
  refine (below_any _ _ _ _ _ _ h0 hl hc).mono ?_
  rintro e w1 ⟨x, _, rfl, hc1, g1⟩
  go_wp2
  go_ret
  exact ⟨_, rfl, hc1, g1⟩
def NewDrawnDisc (w0 : World) (cb : Nat) (v : Value) (L : List Int) (w : World) (en : Ending) (w' : World) : Prop :=
  ∃ (r : Nat) (l : List Int) (A : Option Addr) (c : Nat), en = .returned (.agg #[.int .i64 r, .slice A l.length c]) ∧ (4 ≤ l.length ∧ l.length ≤ 17) ∧ (1 ≤ r ∧ r ≤ 8) ∧ drD r l ∧ w'.ownsRow w.heap.size 3 1 (.slice A l.length c) l.length (cI l) ∧ Cur w0 w' cb v L ∧ w.grownBy w' (some cb)
set_option maxHeartbeats 6400000 in
set_option maxRecDepth 100000 in
theorem l26Disc_any (w0 : World) (cb : Nat) (v : Value) (L : List Int) (w : World) (h0 : RdB w0 v L) (hl : L.length ≤ 1048576) (hc : Cur w0 w cb v L) :
    Calls Try.prog 86 #[.pointer (some ⟨cb, 0, none⟩)] w (NewDrawnDisc w0 cb v L w) := by
  have hcl := hc.lt
  have hc1 : Cur w0 (w.alloc (.cells #[.int .i64 0, .slice none 0 0] 27)) cb v L := hc.blk (bl_alloc (Below.refl _ _) _) hcl
  go_enter Try.func86, Try.ntmps86
  go_wp2_with fail
  refine (below_any _ _ _ _ _ _ h0 hl hc1).mono ?_
  rintro e w1 ⟨n, ⟨n0, n1⟩, rfl, hc2, g1⟩
  have n1 := n1 (by omega)
  obtain ⟨r, hr⟩ := Int.eq_ofNat_of_zero_le (show 0 ≤ 1 + n by omega)
  have hw : IntKind.i64.wrap (1 + n) = (r : Int) := by rw [IntWalk.i64_in _ (by omega)]; exact hr
  have r1 : 1 ≤ r := by omega
  have r8 : r ≤ 8 := by omega
  clear hr n0 n1
  have s1 := g1.size
  simp only [World.size_alloc] at s1
  obtain ⟨k1, f1, z1⟩ := gr_keeps g1
  have st0 : BoxSt w cb w.heap.size w1.heap.size 1 0 (w1.alloc (.cells #[.int .i64 (r : Int), .slice none 0 0] 27)) (r : Int) (.slice none 0 0) [] := by
    have q0 : w1.cell? ⟨w.heap.size, 0, none⟩ = some (.int .i64 0) := (k1 _ _ (by simp) (by omega)).trans (by simp [go_sem])
    have q1 : w1.cell? ⟨w.heap.size, 1, none⟩ = some (.slice none 0 0) := (k1 _ _ (by simp) (by omega)).trans (by simp [go_sem])
    have p0 : w1.frozen? ⟨w.heap.size, 0, none⟩ = false := (f1 _ _ (by simp) (by omega)).trans (by simp [go_sem])
    have p1 : w1.frozen? ⟨w.heap.size, 1, none⟩ = false := (f1 _ _ (by simp) (by omega)).trans (by simp [go_sem])
    have lt : w.heap.size < w1.heap.size := by omega
    exact ⟨gr_bl (gr_tr (gr_bl (World.grownBy.refl _ _) (bl_alloc (Below.refl _ _) _) (Nat.le_refl _)) g1) (bl_alloc (Below.refl _ _) _) (by omega), hcl, Nat.le_refl _, lt, by simp, by simp [go_sem], by simp [go_sem], by simp [go_sem],
      by simp [go_sem, q1, lt], by simp [go_sem, q0, lt], by simp [go_sem, p1, lt], by simp [go_sem, p0, lt], World.ownsRow_nil _ _ _ _⟩
  have hc3 : Cur w0 (w1.alloc (.cells #[.int .i64 (r : Int), .slice none 0 0] 27)) cb v L := hc2.blk (bl_alloc (Below.refl _ _) _) hc2.lt
  have sD : w.heap.size < w1.heap.size := by omega
  have hcw : cb < w1.heap.size := by omega
  clear hc hc1 hc2 g1 k1 f1 z1 s1
  go_wp2_with fail
  generalize hW1 : w1.alloc (.cells #[.int .i64 (r : Int), .slice none 0 0] 27) = w2 at *
  refine (below_any _ _ _ _ _ _ h0 hl hc3).mono ?_
  rintro e w3 ⟨m, ⟨m0, m1⟩, rfl, hc4, g2⟩
  have m1 := m1 (by omega)
  obtain ⟨N, hN⟩ := Int.eq_ofNat_of_zero_le (show 0 ≤ 4 + m by omega)
  have hwN : IntKind.i64.wrap (4 + m) = (N : Int) := by rw [IntWalk.i64_in _ (by omega)]; exact hN
  have N4 : 4 ≤ N := by omega
  have N17 : N ≤ 17 := by omega
  have st1 := st0.draw g2
  clear hN m0 m1 st0 hc3 g2 hW1
  obtain ⟨P, hP⟩ : ∃ P : Nat, P = 2 ^ r := ⟨_, rfl⟩
  have hP1 : 1 ≤ P := by rw [hP]; exact Nat.two_pow_pos r
  have hP2 : P ≤ 256 := by rw [hP]; exact Nat.pow_le_pow_right (by omega) r8
  have hPi : ((2 : Int) ^ r) = (P : Int) := by rw [hP]; simp
  have hwP : IntKind.i64.wrap ((2 : Int) ^ r) = (P : Int) := by rw [hPi]; exact IntWalk.i64_in _ (by omega)
  have hwQ : IntKind.i64.wrap ((P : Int) - 1) = (P : Int) - 1 := IntWalk.i64_in _ (by omega)
  have HPI := Lib.hid hPi
  clear hP hPi
  go_wp2
  go_loopw [5] (fun i wr => ∃ (k : Nat) (vs : Value) (p : List Int), p.length = k ∧ k ≤ N ∧ i = .int .i64 k ∧ drD r p ∧ BoxSt w cb w.heap.size w1.heap.size 1 0 wr (r : Int) vs p ∧ Cur w0 wr cb v L) (fun i _ => N - (intOf i).toNat)
  case atStart => exact ⟨0, _, [], rfl, Nat.zero_le _, rfl, fun x h => by simp at h, st1, hc4⟩
  case round =>
    clear st1 hc4
    obtain ⟨k, vs, p, hk, hkN, rfl, hp, st, hc⟩ := hrel
    obtain ⟨A, c, rfl⟩ := own_form st.ow
    have HK := Lib.hid hk
    have HP := Lib.hid hp
    have pl : p.length ≤ 1000 := by omega
    clear hk hp
    by_cases hlt : k < N
    · have hlt' : (k : Int) < (N : Int) := by omega
      have r0 : (0 : Int) ≤ (r : Int) := by omega
      have r64 : (r : Int) ≤ 64 := by omega
      go_upto_region 6 with (fail)
      go_cut [6] (fun s wx => ∃ x : Int, (0 ≤ x ∧ x ≤ (P : Int) - 1) ∧ s = .int .i64 x ∧ BoxSt w cb w.heap.size w1.heap.size 1 0 wx (r : Int) (.slice A p.length c) p ∧ Cur w0 wx cb v L)
      case first =>
        have hcd := hc.drew
        have dn := st.dn
        have std := st.step (bl_drew (Below.refl _ _))
        go_region_with (go_at_call 84; refine (below_any _ _ _ _ _ _ h0 hl hcd).mono ?_; rintro e w4 ⟨x, ⟨xl, xu⟩, rfl, hc5, g5⟩; have st5 := std.draw g5; have d5 := st5.dn; have xu := xu (by omega))
        all_goals (go_wp2_with fail; go_meet; exact ⟨_, and_low xl (by omega) hP1 hP2, rfl, st5, hc5⟩)
      case rest =>
        obtain ⟨x, hx, rfl, st2, hc2⟩ := hcut
        obtain ⟨w4, rfl⟩ : ∃ x : World, x = wc := ⟨_, rfl⟩
        have dv2 := st2.dv
        go_wp2_with fail
        refine (once_any _ _ _ _ _ _ h0 hl hc2).mono ?_
        rintro e w5 ⟨b, rfl, hc3, g3⟩
        have st3 := st2.draw g3
        have dv3 := st3.dv
        have dl3 := st3.dl
        clear st2 hc2 g3 dv2 st hc
        cases b
        · have HX : Hid (0 ≤ (x : Int) ∧ (x : Int) ≤ 2 ^ r - 1) := by show _ ∧ _; rw [HPI.out]; omega
          have hyx : p ++ [(x : Int)] = p ++ [(x : Int)] := rfl
          obtain ⟨Q, hQ⟩ : ∃ Q, Q = p ++ [(x : Int)] := ⟨_, rfl⟩
          have HQ := Lib.hid hQ
          clear hQ hyx
          go_wp2_with (at_builtin; refine wpList_app_ints _ rfl _ _ (by rfl) (w1.heap.size + 1) (.slice A p.length c) p (by rfl) (st3.ow.alloc _) _ [(x : Int)] (by rfl) (rdI_box rfl) (by simp; omega) (by have := st3.dl; simp; omega) Q HQ.out.symm ?_; intro A3 c3 w6 ow3 b3; have b23 : Below (w1.heap.size + 1) w5 w6 := Below.trans ((Below.refl _ _).alloc (by have := st3.dl; omega) _) b3; have q0 := (b23.cell (p := ⟨w1.heap.size, 1, none⟩) (Nat.lt_succ_self _)).trans st3.dv; have q1 := (b23.frozen (p := ⟨w1.heap.size, 1, none⟩) (Nat.lt_succ_self _)).trans st3.df)
          have st4 := st3.app (by omega) (x : Int) b23 (v' := .slice A3 Q.length c3) (by rw [← HQ.out]; exact ow3)
          have hc4 : Cur w0 (w6.setCell ⟨w1.heap.size, 1, none⟩ (.slice A3 Q.length c3)) cb v L := (hc3.blk b23 (by omega)).blk ((Below.refl w1.heap.size w6).setCell (Nat.le_refl _) _) (by omega)
          go_roundw
          case rel => exact ⟨k + 1, _, Q, by rw [HQ.out]; simp [HK.out], by omega, by go_num, fun y hy => by rw [HQ.out] at hy; rcases List.mem_append.1 hy with h | h; (· exact HP.out y h); (· rw [List.mem_singleton] at h; rw [h]; exact HX.out), by rw [HQ.out] at *; exact st4, hc4⟩
          case measure => simp [intOf]; omega
        · have HX : Hid (0 ≤ (0 : Int) ∧ (0 : Int) ≤ 2 ^ r - 1) := by show _ ∧ _; rw [HPI.out]; omega
          have hyx : p ++ [(0 : Int)] = p ++ [(0 : Int)] := rfl
          obtain ⟨Q, hQ⟩ : ∃ Q, Q = p ++ [(0 : Int)] := ⟨_, rfl⟩
          have HQ := Lib.hid hQ
          clear hQ hyx
          go_wp2_with (at_builtin; refine wpList_app_ints _ rfl _ _ (by rfl) (w1.heap.size + 1) (.slice A p.length c) p (by rfl) (st3.ow.alloc _) _ [(0 : Int)] (by rfl) (rdI_box rfl) (by simp; omega) (by have := st3.dl; simp; omega) Q HQ.out.symm ?_; intro A3 c3 w6 ow3 b3; have b23 : Below (w1.heap.size + 1) w5 w6 := Below.trans ((Below.refl _ _).alloc (by have := st3.dl; omega) _) b3; have q0 := (b23.cell (p := ⟨w1.heap.size, 1, none⟩) (Nat.lt_succ_self _)).trans st3.dv; have q1 := (b23.frozen (p := ⟨w1.heap.size, 1, none⟩) (Nat.lt_succ_self _)).trans st3.df)
          have st4 := st3.app (by omega) (0 : Int) b23 (v' := .slice A3 Q.length c3) (by rw [← HQ.out]; exact ow3)
          have hc4 : Cur w0 (w6.setCell ⟨w1.heap.size, 1, none⟩ (.slice A3 Q.length c3)) cb v L := (hc3.blk b23 (by omega)).blk ((Below.refl w1.heap.size w6).setCell (Nat.le_refl _) _) (by omega)
          go_roundw
          case rel => exact ⟨k + 1, _, Q, by rw [HQ.out]; simp [HK.out], by omega, by go_num, fun y hy => by rw [HQ.out] at hy; rcases List.mem_append.1 hy with h | h; (· exact HP.out y h); (· rw [List.mem_singleton] at h; rw [h]; exact HX.out), by rw [HQ.out] at *; exact st4, hc4⟩
          case measure => simp [intOf]; omega
    · have hlt' : ¬ (k : Int) < (N : Int) := by omega
      have hkN2 : k = N := by omega
      obtain ⟨gg, hcx, hR, hD, dl, dv, dn, df, rv, rn, rf, rg, ow⟩ := st
      go_wp2
      refine bodyPost_ret (v := .agg #[.int .i64 (r : Int), .slice A p.length c]) (by simp [results, Try.results86, go_sem, rv, rn]) rfl ?_
      have bs : Below w.heap.size wr ((wr.setCell ⟨w.heap.size, 0, none⟩ (.int .i64 (r : Int))).setCell ⟨w.heap.size, 1, none⟩ (.slice A p.length c)) := ((Below.refl w.heap.size _).setCell (p := ⟨w.heap.size, 0, none⟩) (Nat.le_refl _) _).setCell (p := ⟨w.heap.size, 1, none⟩) (Nat.le_refl _) _
      have os := ownsRow_setCell_below (ownsRow_setCell_below ow (a := ⟨w.heap.size, 0, none⟩) (by simp; omega) (.int .i64 (r : Int))) (a := ⟨w.heap.size, 1, none⟩) (by simp; omega) (.slice A p.length c)
      exact ⟨r, p, A, c, rfl, by have := HK.out; omega, ⟨r1, r8⟩, HP.out, own_lo os (by omega), hc.blk bs hcx, gr_bl gg bs (Nat.le_refl _)⟩
def DrawnDisc (w : World) (en : Ending) (w' : World) : Prop :=
  ∃ (r : Nat) (l : List Int) (A : Option Addr) (c : Nat), en = .returned (.agg #[.int .i64 r, .slice A l.length c]) ∧ (4 ≤ l.length ∧ l.length ≤ 17) ∧ (1 ≤ r ∧ r ≤ 8) ∧ drD r l ∧ w'.ownsRow w.heap.size 3 1 (.slice A l.length c) l.length (cI l) ∧ Below w.heap.size w w'
set_option maxHeartbeats 3200000 in
set_option maxRecDepth 100000 in
theorem drawDisc_any (v : Value) (L : List Int) (w : World) (h0 : RdB w v L) (hl : L.length ≤ 1048576) : Calls Try.prog 55 #[v] w (DrawnDisc w) := by
  go_enter Try.func55, Try.ntmps55
  have h0a : RdB (w.alloc (.cells #[.int .i64 0, .slice none 0 0] 27)) v L := h0.bl (bl_alloc (Below.refl _ _) _)
  go_wp2_with fail
  refine (new_any _ _ _ h0a hl).mono ?_
  rintro e w1 ⟨rfl, hc1⟩
  simp only [World.size_alloc] at hc1
  go_wp2_with fail
  refine (l26Disc_any _ _ _ _ _ h0a hl hc1).mono ?_
  rintro e w3 ⟨r, l, A, c, rfl, hN, hr, hd, ow, hc3, g3⟩
  have HN := Lib.hid hN
  clear hN
  have b3 := hc3.bel
  have q0 : w3.cell? ⟨w.heap.size, 0, none⟩ = some (.int .i64 0) := (b3.cell (p := ⟨w.heap.size, 0, none⟩) (by simp)).trans (by simp [go_sem])
  have q1 : w3.cell? ⟨w.heap.size, 1, none⟩ = some (.slice none 0 0) := (b3.cell (p := ⟨w.heap.size, 1, none⟩) (by simp)).trans (by simp [go_sem])
  have p0 : w3.frozen? ⟨w.heap.size, 0, none⟩ = false := (b3.frozen (p := ⟨w.heap.size, 0, none⟩) (by simp)).trans (by simp [go_sem])
  have p1 : w3.frozen? ⟨w.heap.size, 1, none⟩ = false := (b3.frozen (p := ⟨w.heap.size, 1, none⟩) (by simp)).trans (by simp [go_sem])
  have sz := hc1.bel.size
  simp only [World.size_alloc] at sz
  go_wp2
  refine bodyPost_ret (v := .agg #[.int .i64 (r : Int), .slice A l.length c]) (by simp [results, Try.results55, go_sem, q0, q1]) rfl ?_
  have bs : Below w.heap.size w3 ((w3.setCell ⟨w.heap.size, 0, none⟩ (.int .i64 (r : Int))).setCell ⟨w.heap.size, 1, none⟩ (.slice A l.length c)) := ((Below.refl w.heap.size _).setCell (p := ⟨w.heap.size, 0, none⟩) (Nat.le_refl _) _).setCell (p := ⟨w.heap.size, 1, none⟩) (Nat.le_refl _) _
  have os := ownsRow_setCell_below (ownsRow_setCell_below ow (a := ⟨w.heap.size, 0, none⟩) (by simp; omega) (.int .i64 (r : Int))) (a := ⟨w.heap.size, 1, none⟩) (by simp; omega) (.slice A l.length c)
  exact ⟨r, l, A, c, rfl, HN.out, hr, hd, own_lo os (by omega), ((bl_alloc (Below.refl _ _) _).trans (b3.mono (by simp))).trans bs⟩
end Go.Proofs.Ytoijjjaodfincaa
