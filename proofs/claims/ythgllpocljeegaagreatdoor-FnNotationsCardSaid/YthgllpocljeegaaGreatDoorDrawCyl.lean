/- The drawn cylinder; lengths up to 2^20. -/
import Derived.Test.YthgllpocljeegaaGreatDoorPutPin
import Derived.Test.YthgllpocljeegaaGreatDoorDraw2
import Derived.Test.YthgllpocljeegaaGreatDoorDrawTune
import Derived.Deep.DeepCutAuto
import Derived.Deep.RegionHeld3
namespace Go.Proofs.YthgllpocljeegaaGreatDoor
open Go.RowKit Go.Sort

/-- block R: the result's, untouched; block D: the cylinder that is drawn; all else but cb's block is as it was in w -/
structure CyB (w : World) (cb R D : Nat) (wr : World) (n r : Int) (v : Value) (L : List (Int × Int)) : Prop where
  gg : w.grownBy wr (some cb)
  hc : cb < w.heap.size
  hR : w.heap.size ≤ R
  hD : R < D
  dl : D < wr.heap.size
  d0 : wr.cell? ⟨D, 0, none⟩ = some (.int .i64 n)
  d1 : wr.cell? ⟨D, 1, none⟩ = some (.int .i64 r)
  dv : wr.cell? ⟨D, 2, none⟩ = some v
  df : wr.frozen? ⟨D, 2, none⟩ = false
  r0 : wr.cell? ⟨R, 0, none⟩ = some (.int .i64 0)
  r1 : wr.cell? ⟨R, 1, none⟩ = some (.int .i64 0)
  r2 : wr.cell? ⟨R, 2, none⟩ = some (.slice none 0 0)
  f0 : wr.frozen? ⟨R, 0, none⟩ = false
  f1 : wr.frozen? ⟨R, 1, none⟩ = false
  f2 : wr.frozen? ⟨R, 2, none⟩ = false
  ow : wr.ownsRow (D + 1) 44 2 v L.length (cP L)
section
variable {w wr w2 : World} {cb R D : Nat} {n r : Int} {v v' : Value} {L L' : List (Int × Int)}
theorem CyB.step (h : CyB w cb R D wr n r v L) (b : Below wr.heap.size wr w2) : CyB w cb R D w2 n r v L := by
  obtain ⟨gg, hc, hR, hD, dl, d0, d1, dv, df, r0, r1, r2, f0, f1, f2, ow⟩ := h
  have rl : R < wr.heap.size := by omega
  exact ⟨gr_bl gg b gg.size, hc, hR, hD, Nat.lt_of_lt_of_le dl b.size, (b.cell (p := ⟨D, 0, none⟩) dl).trans d0, (b.cell (p := ⟨D, 1, none⟩) dl).trans d1, (b.cell (p := ⟨D, 2, none⟩) dl).trans dv, (b.frozen (p := ⟨D, 2, none⟩) dl).trans df, (b.cell (p := ⟨R, 0, none⟩) rl).trans r0, (b.cell (p := ⟨R, 1, none⟩) rl).trans r1, (b.cell (p := ⟨R, 2, none⟩) rl).trans r2, (b.frozen (p := ⟨R, 0, none⟩) rl).trans f0, (b.frozen (p := ⟨R, 1, none⟩) rl).trans f1, (b.frozen (p := ⟨R, 2, none⟩) rl).trans f2, own_bl ow b⟩
theorem CyB.draw (h : CyB w cb R D wr n r v L) (g : wr.grownBy w2 (some cb)) : CyB w cb R D w2 n r v L := by
  obtain ⟨gg, hc, hR, hD, dl, d0, d1, dv, df, r0, r1, r2, f0, f1, f2, ow⟩ := h
  have rl : R < wr.heap.size := by omega
  obtain ⟨k, f, z⟩ := gr_keeps g
  exact ⟨gr_tr gg g, hc, hR, hD, z _ dl, (k D 0 dl (by omega)).trans d0, (k D 1 dl (by omega)).trans d1, (k D 2 dl (by omega)).trans dv, (f D 2 dl (by omega)).trans df, (k R 0 rl (by omega)).trans r0, (k R 1 rl (by omega)).trans r1, (k R 2 rl (by omega)).trans r2, (f R 0 rl (by omega)).trans f0, (f R 1 rl (by omega)).trans f1, (f R 2 rl (by omega)).trans f2, own_draw ow g (by omega)⟩
theorem CyB.put (h : CyB w cb R D wr n r v L) (ow : wr.ownsRow (D + 1) 44 2 v' L'.length (cP L')) : CyB w cb R D (wr.setCell ⟨D, 2, none⟩ v') n r v' L' := by
  obtain ⟨gg, hc, hR, hD, dl, d0, d1, dv, df, r0, r1, r2, f0, f1, f2, _⟩ := h
  have bs : Below D wr (wr.setCell ⟨D, 2, none⟩ v') := (Below.refl D wr).setCell (Nat.le_refl _) _
  refine ⟨gr_bl gg bs (by omega), hc, hR, hD, by simpa using dl, (World.cell?_setCell_other _ _ _ _ (by simp)).trans d0, (World.cell?_setCell_other _ _ _ _ (by simp)).trans d1, World.cell?_setCell_same _ _ _ dv, by simpa [go_sem] using df, (bs.cell (p := ⟨R, 0, none⟩) hD).trans r0, (bs.cell (p := ⟨R, 1, none⟩) hD).trans r1, (bs.cell (p := ⟨R, 2, none⟩) hD).trans r2, (bs.frozen (p := ⟨R, 0, none⟩) hD).trans f0, (bs.frozen (p := ⟨R, 1, none⟩) hD).trans f1, (bs.frozen (p := ⟨R, 2, none⟩) hD).trans f2, ownsRow_setCell_below ow (by show D < D + 1; omega) _⟩
end
theorem cur_drew {w0 w : World} {cb : Nat} {v : Value} {L : List Int} (h : Cur w0 w cb v L) : Cur w0 w.drew cb v L := h.blk (bl_drew (Below.refl _ _)) h.lt
/-- drawn pins -/
structure DrP (n r : Int) (L : List (Int × Int)) : Prop where
  pw : L.Pairwise fun a b => ltP a b = true
  bd : ∀ x ∈ L, (0 ≤ x.1 ∧ x.1 ≤ r - 1) ∧ (0 ≤ x.2 ∧ x.2 ≤ n - 1)
theorem drp_nil (n r : Int) : DrP n r [] := ⟨List.Pairwise.nil, fun x h => by simp at h⟩
theorem drp_ins {n r : Int} {L : List (Int × Int)} {x : Int × Int} (h : DrP n r L) (hx : (0 ≤ x.1 ∧ x.1 ≤ r - 1) ∧ (0 ≤ x.2 ∧ x.2 ≤ n - 1)) : DrP n r (insF ltP x L) :=
  ⟨insF_pw ordP h.pw, fun y hy => by rcases insF_mem.1 hy with rfl | h2; (· exact hx); (· exact h.bd y h2)⟩
theorem drp_cyl {n r : Int} {L : List (Int × Int)} (h : DrP n r L) (n4 : 4 ≤ n) (n24 : n ≤ 24) (r1 : 1 ≤ r) (r8 : r ≤ 8) (hl : L.length ≤ 9) : cylB n r L = true := by
  simp only [cylB, Bool.and_eq_true, decide_eq_true_eq]
  refine ⟨⟨⟨inB_yes (by omega) (by omega), inB_yes (by omega) (by omega)⟩, by omega⟩, okP_all fun k hk => spB_iff.2 ⟨pinB_iff.2 (h.bd _ (gP_mem hk)), ?_⟩⟩
  by_cases h0 : k = 0
  · exact .inl h0
  · refine .inr ?_
    rw [gP_eq hk, gP_eq (show k - 1 < L.length by omega)]
    exact List.pairwise_iff_getElem.1 h.pw (k - 1) k (by omega) hk (by omega)
def NewDrawnCyl (w0 : World) (cb : Nat) (v : Value) (L : List Int) (w : World) (en : Ending) (w' : World) : Prop :=
  ∃ (n r : Int) (l : List (Int × Int)) (A : Option Addr) (c : Nat), en = .returned (.agg #[.int .i64 n, .int .i64 r, .slice A l.length c]) ∧ (4 ≤ n ∧ n ≤ 24) ∧ (1 ≤ r ∧ r ≤ 8) ∧ l.length ≤ 9 ∧ DrP n r l ∧ w'.ownsRow w.heap.size 44 2 (.slice A l.length c) l.length (cP l) ∧ Cur w0 w' cb v L ∧ w.grownBy w' (some cb)
theorem put_own {lo : Nat} {A : Option Addr} {c : Nat} (l : List (Int × Int)) (p0 p1 : Int) (w : World) (h1 : w.ownsRow lo 44 2 (.slice A l.length c) l.length (cP l)) (hl : l.length ≤ 99) :
    Calls Tryz.prog 34 #[.slice A l.length c, .agg #[.int .i64 p0, .int .i64 p1]] w (NewPut (insF ltP (p0, p1) l) w) := by
  have h2 := h1
  rcases h2.2 with ⟨hv, h0⟩ | ⟨g, cap, cur, hv, hlo, hg, r⟩
  · obtain ⟨rfl, hl0, rfl⟩ : A = none ∧ l.length = 0 ∧ c = 0 := by simpa using hv
    have : l = [] := List.eq_nil_of_length_eq_zero hl0
    subst this
    exact putNil_any p0 p1 w
  · obtain ⟨rfl, _, rfl⟩ : A = some ⟨g, 0, none⟩ ∧ l.length = l.length ∧ c = cap := by simpa using hv
    exact put_any g 0 c l p0 p1 w (Rd.of_own h1) (Array.getElem?_eq_some_iff.1 hg).1 hl
set_option maxHeartbeats 12800000 in
set_option maxRecDepth 100000 in
theorem l06Cylinder_any (w0 : World) (cb : Nat) (v : Value) (L : List Int) (w : World) (h0 : RdB w0 v L) (hl : L.length ≤ 1048576) (hc : Cur w0 w cb v L) :
    Calls Tryz.prog 19 #[.pointer (some ⟨cb, 0, none⟩)] w (NewDrawnCyl w0 cb v L w) := by
  have hcl := hc.lt
  have ba := bl_alloc (Below.refl w.heap.size w) (.cells #[.int .i64 0, .int .i64 0, .slice none 0 0] 31)
  have hc1 : Cur w0 (w.alloc (.cells #[.int .i64 0, .int .i64 0, .slice none 0 0] 31)) cb v L := hc.blk ba hcl
  go_enter Tryz.func19, Tryz.ntmps19
  go_wp2_with fail
  refine (below_any _ _ _ _ _ _ h0 hl hc1).mono ?_
  rintro e w1 ⟨a, ⟨a0, a1⟩, rfl, hc2, g1⟩
  have a1 := a1 (by omega)
  have hwa : IntKind.i64.wrap (4 + a) = 4 + a := IntWalk.i64_in _ (by omega)
  go_wp2_with fail
  refine (below_any _ _ _ _ _ _ h0 hl hc2).mono ?_
  rintro e w2 ⟨b, ⟨b0, b1⟩, rfl, hc3, g2⟩
  have b1 := b1 (by omega)
  have hwb : IntKind.i64.wrap (1 + b) = 1 + b := IntWalk.i64_in _ (by omega)
  have g12 := gr_tr g1 g2
  have s2 := g12.size
  simp only [World.size_alloc] at s2
  obtain ⟨k1, f1, z1⟩ := gr_keeps g12
  obtain ⟨n, hn⟩ : ∃ n, n = 4 + a := ⟨_, rfl⟩
  obtain ⟨r, hr⟩ : ∃ r, r = 1 + b := ⟨_, rfl⟩
  rw [← hn] at hwa
  have hwb : IntKind.i64.wrap (1 + b) = r := hwb.trans hr.symm
  have n4 : 4 ≤ n := by omega
  have n24 : n ≤ 24 := by omega
  have r1 : 1 ≤ r := by omega
  have r8 : r ≤ 8 := by omega
  have st0 : CyB w cb w.heap.size w2.heap.size (w2.alloc (.cells #[.int .i64 n, .int .i64 r, .slice none 0 0] 31)) n r (.slice none 0 0) [] := by
    have q0 : w2.cell? ⟨w.heap.size, 0, none⟩ = some (.int .i64 0) := (k1 _ _ (by simp) (by omega)).trans (by simp [go_sem])
    have q1 : w2.cell? ⟨w.heap.size, 1, none⟩ = some (.int .i64 0) := (k1 _ _ (by simp) (by omega)).trans (by simp [go_sem])
    have q2 : w2.cell? ⟨w.heap.size, 2, none⟩ = some (.slice none 0 0) := (k1 _ _ (by simp) (by omega)).trans (by simp [go_sem])
    have p0 : w2.frozen? ⟨w.heap.size, 0, none⟩ = false := (f1 _ _ (by simp) (by omega)).trans (by simp [go_sem])
    have p1 : w2.frozen? ⟨w.heap.size, 1, none⟩ = false := (f1 _ _ (by simp) (by omega)).trans (by simp [go_sem])
    have p2 : w2.frozen? ⟨w.heap.size, 2, none⟩ = false := (f1 _ _ (by simp) (by omega)).trans (by simp [go_sem])
    have lt : w.heap.size < w2.heap.size := by omega
    exact ⟨gr_bl (gr_tr (gr_bl (World.grownBy.refl _ _) ba (Nat.le_refl _)) g12) (bl_alloc (Below.refl _ _) _) (by omega), hcl, Nat.le_refl _, lt, by simp, by simp [go_sem], by simp [go_sem], by simp [go_sem], by simp [go_sem],
      by simp [go_sem, q0, lt], by simp [go_sem, q1, lt], by simp [go_sem, q2, lt], by simp [go_sem, p0, lt], by simp [go_sem, p1, lt], by simp [go_sem, p2, lt], World.ownsRow_nil _ _ _ _⟩
  have hc4 : Cur w0 (w2.alloc (.cells #[.int .i64 n, .int .i64 r, .slice none 0 0] 31)) cb v L := hc3.blk (bl_alloc (Below.refl _ _) _) hc3.lt
  clear hc hc1 hc2 hc3 g1 g2 g12 k1 f1 z1 ba a0 a1 b0 b1
  rw [← hn]
  clear hwb
  have HNR := Lib.hid (And.intro hn hr)
  clear hn hr
  go_wp2_with fail
  rw [← HNR.out.2]
  generalize hW : w2.alloc (.cells #[.int .i64 n, .int .i64 r, .slice none 0 0] 31) = w3 at *
  refine (below_any _ _ _ _ _ _ h0 hl hc4).mono ?_
  rintro e w4 ⟨m0, ⟨m1, m2⟩, rfl, hc5, g3⟩
  obtain ⟨M, rfl⟩ := Int.eq_ofNat_of_zero_le m1
  have hM : M ≤ 9 := by have := m2 (by omega); omega
  have st1 := st0.draw g3
  clear st0 hc4 g3 hW m1 m2
  go_wp2
  go_loopw [4] (fun i wr => ∃ (m : Nat) (vs : Value) (p : List (Int × Int)), i = .int .i64 m ∧ p.length + m ≤ 9 ∧ DrP n r p ∧ CyB w cb w.heap.size w2.heap.size wr n r vs p ∧ Cur w0 wr cb v L) (fun i _ => (intOf i).toNat)
  case atStart => exact ⟨M, _, [], rfl, by simpa using hM, drp_nil _ _, st1, hc5⟩
  case round =>
    clear st1 hc5
    obtain ⟨m, vs, p, rfl, hm, hp, st, hc⟩ := hrel
    obtain ⟨A, c, rfl⟩ := own_form st.ow
    have HP := Lib.hid hp
    have pl : p.length ≤ 9 := by omega
    clear hp
    by_cases hlt : 0 < m
    · have hlt' : (0 : Int) < (m : Int) := by omega
      go_upto_region 5 with (fail)
      have hcd := cur_drew hc
      have std := st.step (bl_drew (Below.refl _ _))
      have d0 := std.d0
      have d1 := std.d1
      have dv := std.dv
      have df := std.df
      have dl := std.dl
      have hw0 := std.gg.size
      have hcx := std.hc
      clear st hc
      -- held
      refine wp_region_held_drew (S := fun w' => w'.cell? ⟨w2.heap.size, 0, none⟩ = some (.int .i64 n) ∧ w'.cell? ⟨w2.heap.size, 1, none⟩ = some (.int .i64 r)) (by kernel_rfl) ⟨d0, d1⟩ (fun hHeld => ?_)
      refine wpAnyH_take (i := 0) (oi := _) (v := ?_) rfl (by kernel_rfl) (by kernel_rfl) (by kernel_rfl) (fun _ _ _ h => h) (Or.inl ⟨by rfl, ?_⟩) (by assumption) ?_
      rotate_left
      · (intro w' hSw; (try dsimp only at hSw); go_simp; (try with_reducible rfl))
      (try simp only [Act.put, List.setIfInBounds_toArray, List.set_cons_zero, List.set_cons_succ, List.getElem_toArray, List.getElem_cons_zero, List.getElem_cons_succ])
      refine wpAnyH_take (i := 2) (oi := _) (v := ?_) rfl (by kernel_rfl) (by kernel_rfl) (by kernel_rfl) (fun _ _ _ h => h) (Or.inl ⟨by rfl, ?_⟩) (by assumption) ?_
      rotate_left
      · (intro w' hSw; (try dsimp only at hSw); go_simp; (try with_reducible rfl))
      (try simp only [Act.put, List.setIfInBounds_toArray, List.set_cons_zero, List.set_cons_succ, List.getElem_toArray, List.getElem_cons_zero, List.getElem_cons_succ])
      refine wpAnyH_take (i := 3) (oi := _) (v := ?_) rfl (by kernel_rfl) (by kernel_rfl) (by kernel_rfl) (fun _ _ _ h => h) (Or.inl ⟨by rfl, ?_⟩) (by assumption) ?_
      rotate_left
      · (intro w' hSw; (try dsimp only at hSw); go_simp; (try with_reducible rfl))
      (try simp only [Act.put, List.setIfInBounds_toArray, List.set_cons_zero, List.set_cons_succ, List.getElem_toArray, List.getElem_cons_zero, List.getElem_cons_succ])
      refine wpAnyH_take (i := 4) (oi := _) (v := ?_) rfl (by kernel_rfl) (by kernel_rfl) (by kernel_rfl) (fun _ _ _ h => h) (Or.inl ⟨by rfl, ?_⟩) (by assumption) ?_
      rotate_left
      · (intro w' hSw; (try dsimp only at hSw); go_simp; (try with_reducible rfl))
      (try simp only [Act.put, List.setIfInBounds_toArray, List.set_cons_zero, List.set_cons_succ, List.getElem_toArray, List.getElem_cons_zero, List.getElem_cons_succ])
      refine wpAnyH_take (i := 6) (oi := _) (v := ?_) rfl (by kernel_rfl) (by kernel_rfl) (by kernel_rfl) (fun _ _ _ h => h) (Or.inl ⟨by rfl, ?_⟩) (by assumption) ?_
      rotate_left
      · (intro w' hSw; (try dsimp only at hSw); go_simp; (try with_reducible rfl))
      (try simp only [Act.put, List.setIfInBounds_toArray, List.set_cons_zero, List.set_cons_succ, List.getElem_toArray, List.getElem_cons_zero, List.getElem_cons_succ])
      refine wpAnyH_take (i := 7) (oi := _) (v := ?_) rfl (by kernel_rfl) (by kernel_rfl) (by kernel_rfl) (fun _ _ _ h => h) (Or.inl ⟨by rfl, ?_⟩) (by assumption) ?_
      rotate_left
      · (intro w' hSw; (try dsimp only at hSw); go_simp; (try with_reducible rfl))
      (try simp only [Act.put, List.setIfInBounds_toArray, List.set_cons_zero, List.set_cons_succ, List.getElem_toArray, List.getElem_cons_zero, List.getElem_cons_succ])
      refine wpAnyH_take (i := 8) (oi := _) (v := ?_) rfl (by kernel_rfl) (by kernel_rfl) (by kernel_rfl) (fun _ _ _ h => h) (Or.inl ⟨by rfl, ?_⟩) (by assumption) ?_
      rotate_left
      · (intro w' hSw; (try dsimp only at hSw); go_simp; (try with_reducible rfl))
      (try simp only [Act.put, List.setIfInBounds_toArray, List.set_cons_zero, List.set_cons_succ, List.getElem_toArray, List.getElem_cons_zero, List.getElem_cons_succ])
      refine wpAnyH_ready (rs := [1, 5]) (by kernel_rfl) (by simp) ?_
      refine AllReadyH.cons (o := _) rfl (fun K hK => ?_) ?_
      · go_simp
        refine hK.out _ _ hHeld (fun hHeld2 => ?_)
        clear hK K hHeld
        have hHeld := hHeld2
        clear hHeld2
        (try simp only [Act.put, List.setIfInBounds_toArray, List.set_cons_zero, List.set_cons_succ, List.getElem_toArray, List.getElem_cons_zero, List.getElem_cons_succ])
        refine wpAnyH_ready (rs := [5]) (by kernel_rfl) (by simp) ?_
        refine AllReadyH.cons (o := _) rfl (fun K hK => ?_) ?_
        · (go_simp; go_at_call 27; refine (below_any _ _ _ _ _ _ h0 hl hcd).mono ?_; rintro e w5 ⟨x, ⟨xl, xu⟩, rfl, hc5, g5⟩; have xu := xu (by omega); have st5 := std.draw g5; have dv5 := st5.dv)
          refine hK.out _ _ ⟨st5.d0, st5.d1⟩ (fun hHeld2 => ?_)
          clear hK K hHeld
          have hHeld := hHeld2
          clear hHeld2
          (try simp only [Act.put, List.setIfInBounds_toArray, List.set_cons_zero, List.set_cons_succ, List.getElem_toArray, List.getElem_cons_zero, List.getElem_cons_succ])
          refine wpAnyH_ready (rs := [9]) (by kernel_rfl) (by simp) ?_
          refine AllReadyH.cons (o := _) rfl (fun K hK => ?_) ?_
          · (go_simp; go_at_call 27; refine (below_any _ _ _ _ _ _ h0 hl hc5).mono ?_; rintro e w6 ⟨y, ⟨yl, yu⟩, rfl, hc6, g6⟩; have yu := yu (by omega); have st6 := st5.draw g6; have dv6 := st6.dv)
            refine hK.out _ _ ⟨st6.d0, st6.d1⟩ (fun hHeld2 => ?_)
            clear hK K hHeld
            have hHeld := hHeld2
            clear hHeld2
            (try simp only [Act.put, List.setIfInBounds_toArray, List.set_cons_zero, List.set_cons_succ, List.getElem_toArray, List.getElem_cons_zero, List.getElem_cons_succ])
            refine wpAnyH_ready (rs := [10]) (by kernel_rfl) (by simp) ?_
            refine AllReadyH.cons (o := _) rfl (fun K hK => ?_) ?_
            · go_simp
              refine hK.out _ _ hHeld (fun hHeld2 => ?_)
              clear hK K hHeld
              have hHeld := hHeld2
              clear hHeld2
              (try simp only [Act.put, List.setIfInBounds_toArray, List.set_cons_zero, List.set_cons_succ, List.getElem_toArray, List.getElem_cons_zero, List.getElem_cons_succ])
              refine wpAnyH_ready (rs := [11]) (by kernel_rfl) (by simp) ?_
              refine AllReadyH.cons (o := _) rfl (fun K hK => ?_) ?_
              · (go_simp; go_at_call 34; refine (put_own p x y _ st6.ow (by omega)).mono ?_; rintro e w9 ⟨A9, c9, b9, rfl, ow9, b9b⟩; have st9 := st6.step b9b; have hc9 := hc6.blk b9b hc6.lt; have df := st9.df; have dv9 := st9.dv; have dl9 := st9.dl; have sz6 := st6.dl; have st10 := st9.put (own_lo (lo' := w2.heap.size + 1) ow9 sz6); have hc10 := hc9.blk ((Below.refl w2.heap.size _).setCell (p := ⟨w2.heap.size, 2, none⟩) (Nat.le_refl _) (.slice A9 (insF ltP (x, y) p).length c9)) (by have := st9.hc; have := st9.hR; omega); have hd10 : DrP n r (insF ltP (x, y) p) := drp_ins HP.out (by constructor <;> constructor <;> omega); have hl10 : (insF ltP (x, y) p).length ≤ p.length + 1 := insF_len; obtain ⟨Q, hQ⟩ : ∃ Q, insF ltP (x, y) p = Q := ⟨_, rfl⟩; rw [hQ] at st10 hc10 hd10 hl10 ow9; rw [hQ]; clear hQ)
                refine hK.out _ _ ⟨st9.d0, st9.d1⟩ (fun hHeld2 => ?_)
                clear hK K hHeld
                have hHeld := hHeld2
                clear hHeld2
                (try simp only [Act.put, List.setIfInBounds_toArray, List.set_cons_zero, List.set_cons_succ, List.getElem_toArray, List.getElem_cons_zero, List.getElem_cons_succ])
                refine wpAnyH_ready (rs := [12]) (by kernel_rfl) (by simp) ?_
                refine AllReadyH.cons (o := _) rfl (fun K hK => ?_) ?_
                · go_simp
                  refine hK.out _ _ hHeld (fun hHeld2 => ?_)
                  clear hK K hHeld
                  have hHeld := hHeld2
                  clear hHeld2
                  (try simp only [Act.put, List.setIfInBounds_toArray, List.set_cons_zero, List.set_cons_succ, List.getElem_toArray, List.getElem_cons_zero, List.getElem_cons_succ])
                  refine wpAnyH_ready (rs := [13, 14]) (by kernel_rfl) (by simp) ?_
                  refine AllReadyH.cons (o := _) rfl (fun K hK => ?_) ?_
                  · go_simp
                    refine hK.out _ _ hHeld (fun hHeld2 => ?_)
                    clear hK K hHeld
                    have hHeld := hHeld2
                    clear hHeld2
                    (try simp only [Act.put, List.setIfInBounds_toArray, List.set_cons_zero, List.set_cons_succ, List.getElem_toArray, List.getElem_cons_zero, List.getElem_cons_succ])
                    refine wpAnyH_ready (rs := [14, 15]) (by kernel_rfl) (by simp) ?_
                    refine AllReadyH.cons (o := _) rfl (fun K hK => ?_) ?_
                    · go_simp
                      refine hK.out _ _ hHeld (fun hHeld2 => ?_)
                      clear hK K hHeld
                      have hHeld := hHeld2
                      clear hHeld2
                      (try simp only [Act.put, List.setIfInBounds_toArray, List.set_cons_zero, List.set_cons_succ, List.getElem_toArray, List.getElem_cons_zero, List.getElem_cons_succ])
                      refine wpAnyH_ready (rs := [15]) (by kernel_rfl) (by simp) ?_
                      refine AllReadyH.cons (o := _) rfl (fun K hK => ?_) ?_
                      · go_simp
                        refine hK.out _ _ hHeld (fun hHeld2 => ?_)
                        clear hK K hHeld
                        have hHeld := hHeld2
                        clear hHeld2
                        (try simp only [Act.put, List.setIfInBounds_toArray, List.set_cons_zero, List.set_cons_succ, List.getElem_toArray, List.getElem_cons_zero, List.getElem_cons_succ])
                        refine wpAnyH_ready (rs := [16]) (by kernel_rfl) (by simp) ?_
                        refine AllReadyH.cons (o := _) rfl (fun K hK => ?_) ?_
                        · go_simp
                          refine hK.out _ _ ⟨st10.d0, st10.d1⟩ (fun hHeld2 => ?_)
                          clear hK K hHeld
                          have hHeld := hHeld2
                          clear hHeld2
                          (try simp only [Act.put, List.setIfInBounds_toArray, List.set_cons_zero, List.set_cons_succ, List.getElem_toArray, List.getElem_cons_zero, List.getElem_cons_succ])
                          refine wpAnyH_done (by kernel_rfl) ?_ _
                          go_wp2
                          go_roundw
                          case rel => exact ⟨m - 1, _, Q, by go_num, by omega, hd10, st10, hc10⟩
                          case measure => simp [intOf]; omega
                        exact AllReadyH.nil
                      exact AllReadyH.nil
                    refine AllReadyH.cons (o := _) rfl (fun K hK => ?_) ?_
                    · go_simp
                      refine hK.out _ _ hHeld (fun hHeld2 => ?_)
                      clear hK K hHeld
                      have hHeld := hHeld2
                      clear hHeld2
                      (try simp only [Act.put, List.setIfInBounds_toArray, List.set_cons_zero, List.set_cons_succ, List.getElem_toArray, List.getElem_cons_zero, List.getElem_cons_succ])
                      refine wpAnyH_ready (rs := [14, 16]) (by kernel_rfl) (by simp) ?_
                      refine AllReadyH.cons (o := _) rfl (fun K hK => ?_) ?_
                      · go_simp
                        refine hK.out _ _ hHeld (fun hHeld2 => ?_)
                        clear hK K hHeld
                        have hHeld := hHeld2
                        clear hHeld2
                        (try simp only [Act.put, List.setIfInBounds_toArray, List.set_cons_zero, List.set_cons_succ, List.getElem_toArray, List.getElem_cons_zero, List.getElem_cons_succ])
                        refine wpAnyH_ready (rs := [16]) (by kernel_rfl) (by simp) ?_
                        refine AllReadyH.cons (o := _) rfl (fun K hK => ?_) ?_
                        · go_simp
                          refine hK.out _ _ ⟨st10.d0, st10.d1⟩ (fun hHeld2 => ?_)
                          clear hK K hHeld
                          have hHeld := hHeld2
                          clear hHeld2
                          (try simp only [Act.put, List.setIfInBounds_toArray, List.set_cons_zero, List.set_cons_succ, List.getElem_toArray, List.getElem_cons_zero, List.getElem_cons_succ])
                          refine wpAnyH_done (by kernel_rfl) ?_ _
                          go_wp2
                          go_roundw
                          case rel => exact ⟨m - 1, _, Q, by go_num, by omega, hd10, st10, hc10⟩
                          case measure => simp [intOf]; omega
                        exact AllReadyH.nil
                      refine AllReadyH.cons (o := _) rfl (fun K hK => ?_) ?_
                      · go_simp
                        refine hK.out _ _ ⟨st10.d0, st10.d1⟩ (fun hHeld2 => ?_)
                        clear hK K hHeld
                        have hHeld := hHeld2
                        clear hHeld2
                        (try simp only [Act.put, List.setIfInBounds_toArray, List.set_cons_zero, List.set_cons_succ, List.getElem_toArray, List.getElem_cons_zero, List.getElem_cons_succ])
                        refine wpAnyH_ready (rs := [14]) (by kernel_rfl) (by simp) ?_
                        refine AllReadyH.cons (o := _) rfl (fun K hK => ?_) ?_
                        · go_simp
                          refine hK.out _ _ hHeld (fun hHeld2 => ?_)
                          clear hK K hHeld
                          have hHeld := hHeld2
                          clear hHeld2
                          (try simp only [Act.put, List.setIfInBounds_toArray, List.set_cons_zero, List.set_cons_succ, List.getElem_toArray, List.getElem_cons_zero, List.getElem_cons_succ])
                          refine wpAnyH_done (by kernel_rfl) ?_ _
                          go_wp2
                          go_roundw
                          case rel => exact ⟨m - 1, _, Q, by go_num, by omega, hd10, st10, hc10⟩
                          case measure => simp [intOf]; omega
                        exact AllReadyH.nil
                      exact AllReadyH.nil
                    exact AllReadyH.nil
                  refine AllReadyH.cons (o := _) rfl (fun K hK => ?_) ?_
                  · go_simp
                    refine hK.out _ _ hHeld (fun hHeld2 => ?_)
                    clear hK K hHeld
                    have hHeld := hHeld2
                    clear hHeld2
                    (try simp only [Act.put, List.setIfInBounds_toArray, List.set_cons_zero, List.set_cons_succ, List.getElem_toArray, List.getElem_cons_zero, List.getElem_cons_succ])
                    refine wpAnyH_ready (rs := [13]) (by kernel_rfl) (by simp) ?_
                    refine AllReadyH.cons (o := _) rfl (fun K hK => ?_) ?_
                    · go_simp
                      refine hK.out _ _ hHeld (fun hHeld2 => ?_)
                      clear hK K hHeld
                      have hHeld := hHeld2
                      clear hHeld2
                      (try simp only [Act.put, List.setIfInBounds_toArray, List.set_cons_zero, List.set_cons_succ, List.getElem_toArray, List.getElem_cons_zero, List.getElem_cons_succ])
                      refine wpAnyH_ready (rs := [15]) (by kernel_rfl) (by simp) ?_
                      refine AllReadyH.cons (o := _) rfl (fun K hK => ?_) ?_
                      · go_simp
                        refine hK.out _ _ hHeld (fun hHeld2 => ?_)
                        clear hK K hHeld
                        have hHeld := hHeld2
                        clear hHeld2
                        (try simp only [Act.put, List.setIfInBounds_toArray, List.set_cons_zero, List.set_cons_succ, List.getElem_toArray, List.getElem_cons_zero, List.getElem_cons_succ])
                        refine wpAnyH_ready (rs := [16]) (by kernel_rfl) (by simp) ?_
                        refine AllReadyH.cons (o := _) rfl (fun K hK => ?_) ?_
                        · go_simp
                          refine hK.out _ _ ⟨st10.d0, st10.d1⟩ (fun hHeld2 => ?_)
                          clear hK K hHeld
                          have hHeld := hHeld2
                          clear hHeld2
                          (try simp only [Act.put, List.setIfInBounds_toArray, List.set_cons_zero, List.set_cons_succ, List.getElem_toArray, List.getElem_cons_zero, List.getElem_cons_succ])
                          refine wpAnyH_done (by kernel_rfl) ?_ _
                          go_wp2
                          go_roundw
                          case rel => exact ⟨m - 1, _, Q, by go_num, by omega, hd10, st10, hc10⟩
                          case measure => simp [intOf]; omega
                        exact AllReadyH.nil
                      exact AllReadyH.nil
                    exact AllReadyH.nil
                  exact AllReadyH.nil
                exact AllReadyH.nil
              exact AllReadyH.nil
            exact AllReadyH.nil
          exact AllReadyH.nil
        exact AllReadyH.nil
      refine AllReadyH.cons (o := _) rfl (fun K hK => ?_) ?_
      · (go_simp; go_at_call 27; refine (below_any _ _ _ _ _ _ h0 hl hcd).mono ?_; rintro e w5 ⟨x, ⟨xl, xu⟩, rfl, hc5, g5⟩; have xu := xu (by omega); have st5 := std.draw g5; have dv5 := st5.dv)
        refine hK.out _ _ ⟨st5.d0, st5.d1⟩ (fun hHeld2 => ?_)
        clear hK K hHeld
        have hHeld := hHeld2
        clear hHeld2
        (try simp only [Act.put, List.setIfInBounds_toArray, List.set_cons_zero, List.set_cons_succ, List.getElem_toArray, List.getElem_cons_zero, List.getElem_cons_succ])
        refine wpAnyH_ready (rs := [1, 9]) (by kernel_rfl) (by simp) ?_
        refine AllReadyH.cons (o := _) rfl (fun K hK => ?_) ?_
        · go_simp
          refine hK.out _ _ hHeld (fun hHeld2 => ?_)
          clear hK K hHeld
          have hHeld := hHeld2
          clear hHeld2
          (try simp only [Act.put, List.setIfInBounds_toArray, List.set_cons_zero, List.set_cons_succ, List.getElem_toArray, List.getElem_cons_zero, List.getElem_cons_succ])
          refine wpAnyH_ready (rs := [9]) (by kernel_rfl) (by simp) ?_
          refine AllReadyH.cons (o := _) rfl (fun K hK => ?_) ?_
          · (go_simp; go_at_call 27; refine (below_any _ _ _ _ _ _ h0 hl hc5).mono ?_; rintro e w6 ⟨y, ⟨yl, yu⟩, rfl, hc6, g6⟩; have yu := yu (by omega); have st6 := st5.draw g6; have dv6 := st6.dv)
            refine hK.out _ _ ⟨st6.d0, st6.d1⟩ (fun hHeld2 => ?_)
            clear hK K hHeld
            have hHeld := hHeld2
            clear hHeld2
            (try simp only [Act.put, List.setIfInBounds_toArray, List.set_cons_zero, List.set_cons_succ, List.getElem_toArray, List.getElem_cons_zero, List.getElem_cons_succ])
            refine wpAnyH_ready (rs := [10]) (by kernel_rfl) (by simp) ?_
            refine AllReadyH.cons (o := _) rfl (fun K hK => ?_) ?_
            · go_simp
              refine hK.out _ _ hHeld (fun hHeld2 => ?_)
              clear hK K hHeld
              have hHeld := hHeld2
              clear hHeld2
              (try simp only [Act.put, List.setIfInBounds_toArray, List.set_cons_zero, List.set_cons_succ, List.getElem_toArray, List.getElem_cons_zero, List.getElem_cons_succ])
              refine wpAnyH_ready (rs := [11]) (by kernel_rfl) (by simp) ?_
              refine AllReadyH.cons (o := _) rfl (fun K hK => ?_) ?_
              · (go_simp; go_at_call 34; refine (put_own p x y _ st6.ow (by omega)).mono ?_; rintro e w9 ⟨A9, c9, b9, rfl, ow9, b9b⟩; have st9 := st6.step b9b; have hc9 := hc6.blk b9b hc6.lt; have df := st9.df; have dv9 := st9.dv; have dl9 := st9.dl; have sz6 := st6.dl; have st10 := st9.put (own_lo (lo' := w2.heap.size + 1) ow9 sz6); have hc10 := hc9.blk ((Below.refl w2.heap.size _).setCell (p := ⟨w2.heap.size, 2, none⟩) (Nat.le_refl _) (.slice A9 (insF ltP (x, y) p).length c9)) (by have := st9.hc; have := st9.hR; omega); have hd10 : DrP n r (insF ltP (x, y) p) := drp_ins HP.out (by constructor <;> constructor <;> omega); have hl10 : (insF ltP (x, y) p).length ≤ p.length + 1 := insF_len; obtain ⟨Q, hQ⟩ : ∃ Q, insF ltP (x, y) p = Q := ⟨_, rfl⟩; rw [hQ] at st10 hc10 hd10 hl10 ow9; rw [hQ]; clear hQ)
                refine hK.out _ _ ⟨st9.d0, st9.d1⟩ (fun hHeld2 => ?_)
                clear hK K hHeld
                have hHeld := hHeld2
                clear hHeld2
                (try simp only [Act.put, List.setIfInBounds_toArray, List.set_cons_zero, List.set_cons_succ, List.getElem_toArray, List.getElem_cons_zero, List.getElem_cons_succ])
                refine wpAnyH_ready (rs := [12]) (by kernel_rfl) (by simp) ?_
                refine AllReadyH.cons (o := _) rfl (fun K hK => ?_) ?_
                · go_simp
                  refine hK.out _ _ hHeld (fun hHeld2 => ?_)
                  clear hK K hHeld
                  have hHeld := hHeld2
                  clear hHeld2
                  (try simp only [Act.put, List.setIfInBounds_toArray, List.set_cons_zero, List.set_cons_succ, List.getElem_toArray, List.getElem_cons_zero, List.getElem_cons_succ])
                  refine wpAnyH_ready (rs := [13, 14]) (by kernel_rfl) (by simp) ?_
                  refine AllReadyH.cons (o := _) rfl (fun K hK => ?_) ?_
                  · go_simp
                    refine hK.out _ _ hHeld (fun hHeld2 => ?_)
                    clear hK K hHeld
                    have hHeld := hHeld2
                    clear hHeld2
                    (try simp only [Act.put, List.setIfInBounds_toArray, List.set_cons_zero, List.set_cons_succ, List.getElem_toArray, List.getElem_cons_zero, List.getElem_cons_succ])
                    refine wpAnyH_ready (rs := [14, 15]) (by kernel_rfl) (by simp) ?_
                    refine AllReadyH.cons (o := _) rfl (fun K hK => ?_) ?_
                    · go_simp
                      refine hK.out _ _ hHeld (fun hHeld2 => ?_)
                      clear hK K hHeld
                      have hHeld := hHeld2
                      clear hHeld2
                      (try simp only [Act.put, List.setIfInBounds_toArray, List.set_cons_zero, List.set_cons_succ, List.getElem_toArray, List.getElem_cons_zero, List.getElem_cons_succ])
                      refine wpAnyH_ready (rs := [15]) (by kernel_rfl) (by simp) ?_
                      refine AllReadyH.cons (o := _) rfl (fun K hK => ?_) ?_
                      · go_simp
                        refine hK.out _ _ hHeld (fun hHeld2 => ?_)
                        clear hK K hHeld
                        have hHeld := hHeld2
                        clear hHeld2
                        (try simp only [Act.put, List.setIfInBounds_toArray, List.set_cons_zero, List.set_cons_succ, List.getElem_toArray, List.getElem_cons_zero, List.getElem_cons_succ])
                        refine wpAnyH_ready (rs := [16]) (by kernel_rfl) (by simp) ?_
                        refine AllReadyH.cons (o := _) rfl (fun K hK => ?_) ?_
                        · go_simp
                          refine hK.out _ _ ⟨st10.d0, st10.d1⟩ (fun hHeld2 => ?_)
                          clear hK K hHeld
                          have hHeld := hHeld2
                          clear hHeld2
                          (try simp only [Act.put, List.setIfInBounds_toArray, List.set_cons_zero, List.set_cons_succ, List.getElem_toArray, List.getElem_cons_zero, List.getElem_cons_succ])
                          refine wpAnyH_done (by kernel_rfl) ?_ _
                          go_wp2
                          go_roundw
                          case rel => exact ⟨m - 1, _, Q, by go_num, by omega, hd10, st10, hc10⟩
                          case measure => simp [intOf]; omega
                        exact AllReadyH.nil
                      exact AllReadyH.nil
                    refine AllReadyH.cons (o := _) rfl (fun K hK => ?_) ?_
                    · go_simp
                      refine hK.out _ _ hHeld (fun hHeld2 => ?_)
                      clear hK K hHeld
                      have hHeld := hHeld2
                      clear hHeld2
                      (try simp only [Act.put, List.setIfInBounds_toArray, List.set_cons_zero, List.set_cons_succ, List.getElem_toArray, List.getElem_cons_zero, List.getElem_cons_succ])
                      refine wpAnyH_ready (rs := [14, 16]) (by kernel_rfl) (by simp) ?_
                      refine AllReadyH.cons (o := _) rfl (fun K hK => ?_) ?_
                      · go_simp
                        refine hK.out _ _ hHeld (fun hHeld2 => ?_)
                        clear hK K hHeld
                        have hHeld := hHeld2
                        clear hHeld2
                        (try simp only [Act.put, List.setIfInBounds_toArray, List.set_cons_zero, List.set_cons_succ, List.getElem_toArray, List.getElem_cons_zero, List.getElem_cons_succ])
                        refine wpAnyH_ready (rs := [16]) (by kernel_rfl) (by simp) ?_
                        refine AllReadyH.cons (o := _) rfl (fun K hK => ?_) ?_
                        · go_simp
                          refine hK.out _ _ ⟨st10.d0, st10.d1⟩ (fun hHeld2 => ?_)
                          clear hK K hHeld
                          have hHeld := hHeld2
                          clear hHeld2
                          (try simp only [Act.put, List.setIfInBounds_toArray, List.set_cons_zero, List.set_cons_succ, List.getElem_toArray, List.getElem_cons_zero, List.getElem_cons_succ])
                          refine wpAnyH_done (by kernel_rfl) ?_ _
                          go_wp2
                          go_roundw
                          case rel => exact ⟨m - 1, _, Q, by go_num, by omega, hd10, st10, hc10⟩
                          case measure => simp [intOf]; omega
                        exact AllReadyH.nil
                      refine AllReadyH.cons (o := _) rfl (fun K hK => ?_) ?_
                      · go_simp
                        refine hK.out _ _ ⟨st10.d0, st10.d1⟩ (fun hHeld2 => ?_)
                        clear hK K hHeld
                        have hHeld := hHeld2
                        clear hHeld2
                        (try simp only [Act.put, List.setIfInBounds_toArray, List.set_cons_zero, List.set_cons_succ, List.getElem_toArray, List.getElem_cons_zero, List.getElem_cons_succ])
                        refine wpAnyH_ready (rs := [14]) (by kernel_rfl) (by simp) ?_
                        refine AllReadyH.cons (o := _) rfl (fun K hK => ?_) ?_
                        · go_simp
                          refine hK.out _ _ hHeld (fun hHeld2 => ?_)
                          clear hK K hHeld
                          have hHeld := hHeld2
                          clear hHeld2
                          (try simp only [Act.put, List.setIfInBounds_toArray, List.set_cons_zero, List.set_cons_succ, List.getElem_toArray, List.getElem_cons_zero, List.getElem_cons_succ])
                          refine wpAnyH_done (by kernel_rfl) ?_ _
                          go_wp2
                          go_roundw
                          case rel => exact ⟨m - 1, _, Q, by go_num, by omega, hd10, st10, hc10⟩
                          case measure => simp [intOf]; omega
                        exact AllReadyH.nil
                      exact AllReadyH.nil
                    exact AllReadyH.nil
                  refine AllReadyH.cons (o := _) rfl (fun K hK => ?_) ?_
                  · go_simp
                    refine hK.out _ _ hHeld (fun hHeld2 => ?_)
                    clear hK K hHeld
                    have hHeld := hHeld2
                    clear hHeld2
                    (try simp only [Act.put, List.setIfInBounds_toArray, List.set_cons_zero, List.set_cons_succ, List.getElem_toArray, List.getElem_cons_zero, List.getElem_cons_succ])
                    refine wpAnyH_ready (rs := [13]) (by kernel_rfl) (by simp) ?_
                    refine AllReadyH.cons (o := _) rfl (fun K hK => ?_) ?_
                    · go_simp
                      refine hK.out _ _ hHeld (fun hHeld2 => ?_)
                      clear hK K hHeld
                      have hHeld := hHeld2
                      clear hHeld2
                      (try simp only [Act.put, List.setIfInBounds_toArray, List.set_cons_zero, List.set_cons_succ, List.getElem_toArray, List.getElem_cons_zero, List.getElem_cons_succ])
                      refine wpAnyH_ready (rs := [15]) (by kernel_rfl) (by simp) ?_
                      refine AllReadyH.cons (o := _) rfl (fun K hK => ?_) ?_
                      · go_simp
                        refine hK.out _ _ hHeld (fun hHeld2 => ?_)
                        clear hK K hHeld
                        have hHeld := hHeld2
                        clear hHeld2
                        (try simp only [Act.put, List.setIfInBounds_toArray, List.set_cons_zero, List.set_cons_succ, List.getElem_toArray, List.getElem_cons_zero, List.getElem_cons_succ])
                        refine wpAnyH_ready (rs := [16]) (by kernel_rfl) (by simp) ?_
                        refine AllReadyH.cons (o := _) rfl (fun K hK => ?_) ?_
                        · go_simp
                          refine hK.out _ _ ⟨st10.d0, st10.d1⟩ (fun hHeld2 => ?_)
                          clear hK K hHeld
                          have hHeld := hHeld2
                          clear hHeld2
                          (try simp only [Act.put, List.setIfInBounds_toArray, List.set_cons_zero, List.set_cons_succ, List.getElem_toArray, List.getElem_cons_zero, List.getElem_cons_succ])
                          refine wpAnyH_done (by kernel_rfl) ?_ _
                          go_wp2
                          go_roundw
                          case rel => exact ⟨m - 1, _, Q, by go_num, by omega, hd10, st10, hc10⟩
                          case measure => simp [intOf]; omega
                        exact AllReadyH.nil
                      exact AllReadyH.nil
                    exact AllReadyH.nil
                  exact AllReadyH.nil
                exact AllReadyH.nil
              exact AllReadyH.nil
            exact AllReadyH.nil
          exact AllReadyH.nil
        refine AllReadyH.cons (o := _) rfl (fun K hK => ?_) ?_
        · (go_simp; go_at_call 27; refine (below_any _ _ _ _ _ _ h0 hl hc5).mono ?_; rintro e w6 ⟨y, ⟨yl, yu⟩, rfl, hc6, g6⟩; have yu := yu (by omega); have st6 := st5.draw g6; have dv6 := st6.dv)
          refine hK.out _ _ ⟨st6.d0, st6.d1⟩ (fun hHeld2 => ?_)
          clear hK K hHeld
          have hHeld := hHeld2
          clear hHeld2
          (try simp only [Act.put, List.setIfInBounds_toArray, List.set_cons_zero, List.set_cons_succ, List.getElem_toArray, List.getElem_cons_zero, List.getElem_cons_succ])
          refine wpAnyH_ready (rs := [1, 10]) (by kernel_rfl) (by simp) ?_
          refine AllReadyH.cons (o := _) rfl (fun K hK => ?_) ?_
          · go_simp
            refine hK.out _ _ hHeld (fun hHeld2 => ?_)
            clear hK K hHeld
            have hHeld := hHeld2
            clear hHeld2
            (try simp only [Act.put, List.setIfInBounds_toArray, List.set_cons_zero, List.set_cons_succ, List.getElem_toArray, List.getElem_cons_zero, List.getElem_cons_succ])
            refine wpAnyH_ready (rs := [10]) (by kernel_rfl) (by simp) ?_
            refine AllReadyH.cons (o := _) rfl (fun K hK => ?_) ?_
            · go_simp
              refine hK.out _ _ hHeld (fun hHeld2 => ?_)
              clear hK K hHeld
              have hHeld := hHeld2
              clear hHeld2
              (try simp only [Act.put, List.setIfInBounds_toArray, List.set_cons_zero, List.set_cons_succ, List.getElem_toArray, List.getElem_cons_zero, List.getElem_cons_succ])
              refine wpAnyH_ready (rs := [11]) (by kernel_rfl) (by simp) ?_
              refine AllReadyH.cons (o := _) rfl (fun K hK => ?_) ?_
              · (go_simp; go_at_call 34; refine (put_own p x y _ st6.ow (by omega)).mono ?_; rintro e w9 ⟨A9, c9, b9, rfl, ow9, b9b⟩; have st9 := st6.step b9b; have hc9 := hc6.blk b9b hc6.lt; have df := st9.df; have dv9 := st9.dv; have dl9 := st9.dl; have sz6 := st6.dl; have st10 := st9.put (own_lo (lo' := w2.heap.size + 1) ow9 sz6); have hc10 := hc9.blk ((Below.refl w2.heap.size _).setCell (p := ⟨w2.heap.size, 2, none⟩) (Nat.le_refl _) (.slice A9 (insF ltP (x, y) p).length c9)) (by have := st9.hc; have := st9.hR; omega); have hd10 : DrP n r (insF ltP (x, y) p) := drp_ins HP.out (by constructor <;> constructor <;> omega); have hl10 : (insF ltP (x, y) p).length ≤ p.length + 1 := insF_len; obtain ⟨Q, hQ⟩ : ∃ Q, insF ltP (x, y) p = Q := ⟨_, rfl⟩; rw [hQ] at st10 hc10 hd10 hl10 ow9; rw [hQ]; clear hQ)
                refine hK.out _ _ ⟨st9.d0, st9.d1⟩ (fun hHeld2 => ?_)
                clear hK K hHeld
                have hHeld := hHeld2
                clear hHeld2
                (try simp only [Act.put, List.setIfInBounds_toArray, List.set_cons_zero, List.set_cons_succ, List.getElem_toArray, List.getElem_cons_zero, List.getElem_cons_succ])
                refine wpAnyH_ready (rs := [12]) (by kernel_rfl) (by simp) ?_
                refine AllReadyH.cons (o := _) rfl (fun K hK => ?_) ?_
                · go_simp
                  refine hK.out _ _ hHeld (fun hHeld2 => ?_)
                  clear hK K hHeld
                  have hHeld := hHeld2
                  clear hHeld2
                  (try simp only [Act.put, List.setIfInBounds_toArray, List.set_cons_zero, List.set_cons_succ, List.getElem_toArray, List.getElem_cons_zero, List.getElem_cons_succ])
                  refine wpAnyH_ready (rs := [13, 14]) (by kernel_rfl) (by simp) ?_
                  refine AllReadyH.cons (o := _) rfl (fun K hK => ?_) ?_
                  · go_simp
                    refine hK.out _ _ hHeld (fun hHeld2 => ?_)
                    clear hK K hHeld
                    have hHeld := hHeld2
                    clear hHeld2
                    (try simp only [Act.put, List.setIfInBounds_toArray, List.set_cons_zero, List.set_cons_succ, List.getElem_toArray, List.getElem_cons_zero, List.getElem_cons_succ])
                    refine wpAnyH_ready (rs := [14, 15]) (by kernel_rfl) (by simp) ?_
                    refine AllReadyH.cons (o := _) rfl (fun K hK => ?_) ?_
                    · go_simp
                      refine hK.out _ _ hHeld (fun hHeld2 => ?_)
                      clear hK K hHeld
                      have hHeld := hHeld2
                      clear hHeld2
                      (try simp only [Act.put, List.setIfInBounds_toArray, List.set_cons_zero, List.set_cons_succ, List.getElem_toArray, List.getElem_cons_zero, List.getElem_cons_succ])
                      refine wpAnyH_ready (rs := [15]) (by kernel_rfl) (by simp) ?_
                      refine AllReadyH.cons (o := _) rfl (fun K hK => ?_) ?_
                      · go_simp
                        refine hK.out _ _ hHeld (fun hHeld2 => ?_)
                        clear hK K hHeld
                        have hHeld := hHeld2
                        clear hHeld2
                        (try simp only [Act.put, List.setIfInBounds_toArray, List.set_cons_zero, List.set_cons_succ, List.getElem_toArray, List.getElem_cons_zero, List.getElem_cons_succ])
                        refine wpAnyH_ready (rs := [16]) (by kernel_rfl) (by simp) ?_
                        refine AllReadyH.cons (o := _) rfl (fun K hK => ?_) ?_
                        · go_simp
                          refine hK.out _ _ ⟨st10.d0, st10.d1⟩ (fun hHeld2 => ?_)
                          clear hK K hHeld
                          have hHeld := hHeld2
                          clear hHeld2
                          (try simp only [Act.put, List.setIfInBounds_toArray, List.set_cons_zero, List.set_cons_succ, List.getElem_toArray, List.getElem_cons_zero, List.getElem_cons_succ])
                          refine wpAnyH_done (by kernel_rfl) ?_ _
                          go_wp2
                          go_roundw
                          case rel => exact ⟨m - 1, _, Q, by go_num, by omega, hd10, st10, hc10⟩
                          case measure => simp [intOf]; omega
                        exact AllReadyH.nil
                      exact AllReadyH.nil
                    refine AllReadyH.cons (o := _) rfl (fun K hK => ?_) ?_
                    · go_simp
                      refine hK.out _ _ hHeld (fun hHeld2 => ?_)
                      clear hK K hHeld
                      have hHeld := hHeld2
                      clear hHeld2
                      (try simp only [Act.put, List.setIfInBounds_toArray, List.set_cons_zero, List.set_cons_succ, List.getElem_toArray, List.getElem_cons_zero, List.getElem_cons_succ])
                      refine wpAnyH_ready (rs := [14, 16]) (by kernel_rfl) (by simp) ?_
                      refine AllReadyH.cons (o := _) rfl (fun K hK => ?_) ?_
                      · go_simp
                        refine hK.out _ _ hHeld (fun hHeld2 => ?_)
                        clear hK K hHeld
                        have hHeld := hHeld2
                        clear hHeld2
                        (try simp only [Act.put, List.setIfInBounds_toArray, List.set_cons_zero, List.set_cons_succ, List.getElem_toArray, List.getElem_cons_zero, List.getElem_cons_succ])
                        refine wpAnyH_ready (rs := [16]) (by kernel_rfl) (by simp) ?_
                        refine AllReadyH.cons (o := _) rfl (fun K hK => ?_) ?_
                        · go_simp
                          refine hK.out _ _ ⟨st10.d0, st10.d1⟩ (fun hHeld2 => ?_)
                          clear hK K hHeld
                          have hHeld := hHeld2
                          clear hHeld2
                          (try simp only [Act.put, List.setIfInBounds_toArray, List.set_cons_zero, List.set_cons_succ, List.getElem_toArray, List.getElem_cons_zero, List.getElem_cons_succ])
                          refine wpAnyH_done (by kernel_rfl) ?_ _
                          go_wp2
                          go_roundw
                          case rel => exact ⟨m - 1, _, Q, by go_num, by omega, hd10, st10, hc10⟩
                          case measure => simp [intOf]; omega
                        exact AllReadyH.nil
                      refine AllReadyH.cons (o := _) rfl (fun K hK => ?_) ?_
                      · go_simp
                        refine hK.out _ _ ⟨st10.d0, st10.d1⟩ (fun hHeld2 => ?_)
                        clear hK K hHeld
                        have hHeld := hHeld2
                        clear hHeld2
                        (try simp only [Act.put, List.setIfInBounds_toArray, List.set_cons_zero, List.set_cons_succ, List.getElem_toArray, List.getElem_cons_zero, List.getElem_cons_succ])
                        refine wpAnyH_ready (rs := [14]) (by kernel_rfl) (by simp) ?_
                        refine AllReadyH.cons (o := _) rfl (fun K hK => ?_) ?_
                        · go_simp
                          refine hK.out _ _ hHeld (fun hHeld2 => ?_)
                          clear hK K hHeld
                          have hHeld := hHeld2
                          clear hHeld2
                          (try simp only [Act.put, List.setIfInBounds_toArray, List.set_cons_zero, List.set_cons_succ, List.getElem_toArray, List.getElem_cons_zero, List.getElem_cons_succ])
                          refine wpAnyH_done (by kernel_rfl) ?_ _
                          go_wp2
                          go_roundw
                          case rel => exact ⟨m - 1, _, Q, by go_num, by omega, hd10, st10, hc10⟩
                          case measure => simp [intOf]; omega
                        exact AllReadyH.nil
                      exact AllReadyH.nil
                    exact AllReadyH.nil
                  refine AllReadyH.cons (o := _) rfl (fun K hK => ?_) ?_
                  · go_simp
                    refine hK.out _ _ hHeld (fun hHeld2 => ?_)
                    clear hK K hHeld
                    have hHeld := hHeld2
                    clear hHeld2
                    (try simp only [Act.put, List.setIfInBounds_toArray, List.set_cons_zero, List.set_cons_succ, List.getElem_toArray, List.getElem_cons_zero, List.getElem_cons_succ])
                    refine wpAnyH_ready (rs := [13]) (by kernel_rfl) (by simp) ?_
                    refine AllReadyH.cons (o := _) rfl (fun K hK => ?_) ?_
                    · go_simp
                      refine hK.out _ _ hHeld (fun hHeld2 => ?_)
                      clear hK K hHeld
                      have hHeld := hHeld2
                      clear hHeld2
                      (try simp only [Act.put, List.setIfInBounds_toArray, List.set_cons_zero, List.set_cons_succ, List.getElem_toArray, List.getElem_cons_zero, List.getElem_cons_succ])
                      refine wpAnyH_ready (rs := [15]) (by kernel_rfl) (by simp) ?_
                      refine AllReadyH.cons (o := _) rfl (fun K hK => ?_) ?_
                      · go_simp
                        refine hK.out _ _ hHeld (fun hHeld2 => ?_)
                        clear hK K hHeld
                        have hHeld := hHeld2
                        clear hHeld2
                        (try simp only [Act.put, List.setIfInBounds_toArray, List.set_cons_zero, List.set_cons_succ, List.getElem_toArray, List.getElem_cons_zero, List.getElem_cons_succ])
                        refine wpAnyH_ready (rs := [16]) (by kernel_rfl) (by simp) ?_
                        refine AllReadyH.cons (o := _) rfl (fun K hK => ?_) ?_
                        · go_simp
                          refine hK.out _ _ ⟨st10.d0, st10.d1⟩ (fun hHeld2 => ?_)
                          clear hK K hHeld
                          have hHeld := hHeld2
                          clear hHeld2
                          (try simp only [Act.put, List.setIfInBounds_toArray, List.set_cons_zero, List.set_cons_succ, List.getElem_toArray, List.getElem_cons_zero, List.getElem_cons_succ])
                          refine wpAnyH_done (by kernel_rfl) ?_ _
                          go_wp2
                          go_roundw
                          case rel => exact ⟨m - 1, _, Q, by go_num, by omega, hd10, st10, hc10⟩
                          case measure => simp [intOf]; omega
                        exact AllReadyH.nil
                      exact AllReadyH.nil
                    exact AllReadyH.nil
                  exact AllReadyH.nil
                exact AllReadyH.nil
              exact AllReadyH.nil
            exact AllReadyH.nil
          refine AllReadyH.cons (o := _) rfl (fun K hK => ?_) ?_
          · go_simp
            refine hK.out _ _ hHeld (fun hHeld2 => ?_)
            clear hK K hHeld
            have hHeld := hHeld2
            clear hHeld2
            (try simp only [Act.put, List.setIfInBounds_toArray, List.set_cons_zero, List.set_cons_succ, List.getElem_toArray, List.getElem_cons_zero, List.getElem_cons_succ])
            refine wpAnyH_ready (rs := [1]) (by kernel_rfl) (by simp) ?_
            refine AllReadyH.cons (o := _) rfl (fun K hK => ?_) ?_
            · go_simp
              refine hK.out _ _ hHeld (fun hHeld2 => ?_)
              clear hK K hHeld
              have hHeld := hHeld2
              clear hHeld2
              (try simp only [Act.put, List.setIfInBounds_toArray, List.set_cons_zero, List.set_cons_succ, List.getElem_toArray, List.getElem_cons_zero, List.getElem_cons_succ])
              refine wpAnyH_ready (rs := [11]) (by kernel_rfl) (by simp) ?_
              refine AllReadyH.cons (o := _) rfl (fun K hK => ?_) ?_
              · (go_simp; go_at_call 34; refine (put_own p x y _ st6.ow (by omega)).mono ?_; rintro e w9 ⟨A9, c9, b9, rfl, ow9, b9b⟩; have st9 := st6.step b9b; have hc9 := hc6.blk b9b hc6.lt; have df := st9.df; have dv9 := st9.dv; have dl9 := st9.dl; have sz6 := st6.dl; have st10 := st9.put (own_lo (lo' := w2.heap.size + 1) ow9 sz6); have hc10 := hc9.blk ((Below.refl w2.heap.size _).setCell (p := ⟨w2.heap.size, 2, none⟩) (Nat.le_refl _) (.slice A9 (insF ltP (x, y) p).length c9)) (by have := st9.hc; have := st9.hR; omega); have hd10 : DrP n r (insF ltP (x, y) p) := drp_ins HP.out (by constructor <;> constructor <;> omega); have hl10 : (insF ltP (x, y) p).length ≤ p.length + 1 := insF_len; obtain ⟨Q, hQ⟩ : ∃ Q, insF ltP (x, y) p = Q := ⟨_, rfl⟩; rw [hQ] at st10 hc10 hd10 hl10 ow9; rw [hQ]; clear hQ)
                refine hK.out _ _ ⟨st9.d0, st9.d1⟩ (fun hHeld2 => ?_)
                clear hK K hHeld
                have hHeld := hHeld2
                clear hHeld2
                (try simp only [Act.put, List.setIfInBounds_toArray, List.set_cons_zero, List.set_cons_succ, List.getElem_toArray, List.getElem_cons_zero, List.getElem_cons_succ])
                refine wpAnyH_ready (rs := [12]) (by kernel_rfl) (by simp) ?_
                refine AllReadyH.cons (o := _) rfl (fun K hK => ?_) ?_
                · go_simp
                  refine hK.out _ _ hHeld (fun hHeld2 => ?_)
                  clear hK K hHeld
                  have hHeld := hHeld2
                  clear hHeld2
                  (try simp only [Act.put, List.setIfInBounds_toArray, List.set_cons_zero, List.set_cons_succ, List.getElem_toArray, List.getElem_cons_zero, List.getElem_cons_succ])
                  refine wpAnyH_ready (rs := [13, 14]) (by kernel_rfl) (by simp) ?_
                  refine AllReadyH.cons (o := _) rfl (fun K hK => ?_) ?_
                  · go_simp
                    refine hK.out _ _ hHeld (fun hHeld2 => ?_)
                    clear hK K hHeld
                    have hHeld := hHeld2
                    clear hHeld2
                    (try simp only [Act.put, List.setIfInBounds_toArray, List.set_cons_zero, List.set_cons_succ, List.getElem_toArray, List.getElem_cons_zero, List.getElem_cons_succ])
                    refine wpAnyH_ready (rs := [14, 15]) (by kernel_rfl) (by simp) ?_
                    refine AllReadyH.cons (o := _) rfl (fun K hK => ?_) ?_
                    · go_simp
                      refine hK.out _ _ hHeld (fun hHeld2 => ?_)
                      clear hK K hHeld
                      have hHeld := hHeld2
                      clear hHeld2
                      (try simp only [Act.put, List.setIfInBounds_toArray, List.set_cons_zero, List.set_cons_succ, List.getElem_toArray, List.getElem_cons_zero, List.getElem_cons_succ])
                      refine wpAnyH_ready (rs := [15]) (by kernel_rfl) (by simp) ?_
                      refine AllReadyH.cons (o := _) rfl (fun K hK => ?_) ?_
                      · go_simp
                        refine hK.out _ _ hHeld (fun hHeld2 => ?_)
                        clear hK K hHeld
                        have hHeld := hHeld2
                        clear hHeld2
                        (try simp only [Act.put, List.setIfInBounds_toArray, List.set_cons_zero, List.set_cons_succ, List.getElem_toArray, List.getElem_cons_zero, List.getElem_cons_succ])
                        refine wpAnyH_ready (rs := [16]) (by kernel_rfl) (by simp) ?_
                        refine AllReadyH.cons (o := _) rfl (fun K hK => ?_) ?_
                        · go_simp
                          refine hK.out _ _ ⟨st10.d0, st10.d1⟩ (fun hHeld2 => ?_)
                          clear hK K hHeld
                          have hHeld := hHeld2
                          clear hHeld2
                          (try simp only [Act.put, List.setIfInBounds_toArray, List.set_cons_zero, List.set_cons_succ, List.getElem_toArray, List.getElem_cons_zero, List.getElem_cons_succ])
                          refine wpAnyH_done (by kernel_rfl) ?_ _
                          go_wp2
                          go_roundw
                          case rel => exact ⟨m - 1, _, Q, by go_num, by omega, hd10, st10, hc10⟩
                          case measure => simp [intOf]; omega
                        exact AllReadyH.nil
                      exact AllReadyH.nil
                    refine AllReadyH.cons (o := _) rfl (fun K hK => ?_) ?_
                    · go_simp
                      refine hK.out _ _ hHeld (fun hHeld2 => ?_)
                      clear hK K hHeld
                      have hHeld := hHeld2
                      clear hHeld2
                      (try simp only [Act.put, List.setIfInBounds_toArray, List.set_cons_zero, List.set_cons_succ, List.getElem_toArray, List.getElem_cons_zero, List.getElem_cons_succ])
                      refine wpAnyH_ready (rs := [14, 16]) (by kernel_rfl) (by simp) ?_
                      refine AllReadyH.cons (o := _) rfl (fun K hK => ?_) ?_
                      · go_simp
                        refine hK.out _ _ hHeld (fun hHeld2 => ?_)
                        clear hK K hHeld
                        have hHeld := hHeld2
                        clear hHeld2
                        (try simp only [Act.put, List.setIfInBounds_toArray, List.set_cons_zero, List.set_cons_succ, List.getElem_toArray, List.getElem_cons_zero, List.getElem_cons_succ])
                        refine wpAnyH_ready (rs := [16]) (by kernel_rfl) (by simp) ?_
                        refine AllReadyH.cons (o := _) rfl (fun K hK => ?_) ?_
                        · go_simp
                          refine hK.out _ _ ⟨st10.d0, st10.d1⟩ (fun hHeld2 => ?_)
                          clear hK K hHeld
                          have hHeld := hHeld2
                          clear hHeld2
                          (try simp only [Act.put, List.setIfInBounds_toArray, List.set_cons_zero, List.set_cons_succ, List.getElem_toArray, List.getElem_cons_zero, List.getElem_cons_succ])
                          refine wpAnyH_done (by kernel_rfl) ?_ _
                          go_wp2
                          go_roundw
                          case rel => exact ⟨m - 1, _, Q, by go_num, by omega, hd10, st10, hc10⟩
                          case measure => simp [intOf]; omega
                        exact AllReadyH.nil
                      refine AllReadyH.cons (o := _) rfl (fun K hK => ?_) ?_
                      · go_simp
                        refine hK.out _ _ ⟨st10.d0, st10.d1⟩ (fun hHeld2 => ?_)
                        clear hK K hHeld
                        have hHeld := hHeld2
                        clear hHeld2
                        (try simp only [Act.put, List.setIfInBounds_toArray, List.set_cons_zero, List.set_cons_succ, List.getElem_toArray, List.getElem_cons_zero, List.getElem_cons_succ])
                        refine wpAnyH_ready (rs := [14]) (by kernel_rfl) (by simp) ?_
                        refine AllReadyH.cons (o := _) rfl (fun K hK => ?_) ?_
                        · go_simp
                          refine hK.out _ _ hHeld (fun hHeld2 => ?_)
                          clear hK K hHeld
                          have hHeld := hHeld2
                          clear hHeld2
                          (try simp only [Act.put, List.setIfInBounds_toArray, List.set_cons_zero, List.set_cons_succ, List.getElem_toArray, List.getElem_cons_zero, List.getElem_cons_succ])
                          refine wpAnyH_done (by kernel_rfl) ?_ _
                          go_wp2
                          go_roundw
                          case rel => exact ⟨m - 1, _, Q, by go_num, by omega, hd10, st10, hc10⟩
                          case measure => simp [intOf]; omega
                        exact AllReadyH.nil
                      exact AllReadyH.nil
                    exact AllReadyH.nil
                  refine AllReadyH.cons (o := _) rfl (fun K hK => ?_) ?_
                  · go_simp
                    refine hK.out _ _ hHeld (fun hHeld2 => ?_)
                    clear hK K hHeld
                    have hHeld := hHeld2
                    clear hHeld2
                    (try simp only [Act.put, List.setIfInBounds_toArray, List.set_cons_zero, List.set_cons_succ, List.getElem_toArray, List.getElem_cons_zero, List.getElem_cons_succ])
                    refine wpAnyH_ready (rs := [13]) (by kernel_rfl) (by simp) ?_
                    refine AllReadyH.cons (o := _) rfl (fun K hK => ?_) ?_
                    · go_simp
                      refine hK.out _ _ hHeld (fun hHeld2 => ?_)
                      clear hK K hHeld
                      have hHeld := hHeld2
                      clear hHeld2
                      (try simp only [Act.put, List.setIfInBounds_toArray, List.set_cons_zero, List.set_cons_succ, List.getElem_toArray, List.getElem_cons_zero, List.getElem_cons_succ])
                      refine wpAnyH_ready (rs := [15]) (by kernel_rfl) (by simp) ?_
                      refine AllReadyH.cons (o := _) rfl (fun K hK => ?_) ?_
                      · go_simp
                        refine hK.out _ _ hHeld (fun hHeld2 => ?_)
                        clear hK K hHeld
                        have hHeld := hHeld2
                        clear hHeld2
                        (try simp only [Act.put, List.setIfInBounds_toArray, List.set_cons_zero, List.set_cons_succ, List.getElem_toArray, List.getElem_cons_zero, List.getElem_cons_succ])
                        refine wpAnyH_ready (rs := [16]) (by kernel_rfl) (by simp) ?_
                        refine AllReadyH.cons (o := _) rfl (fun K hK => ?_) ?_
                        · go_simp
                          refine hK.out _ _ ⟨st10.d0, st10.d1⟩ (fun hHeld2 => ?_)
                          clear hK K hHeld
                          have hHeld := hHeld2
                          clear hHeld2
                          (try simp only [Act.put, List.setIfInBounds_toArray, List.set_cons_zero, List.set_cons_succ, List.getElem_toArray, List.getElem_cons_zero, List.getElem_cons_succ])
                          refine wpAnyH_done (by kernel_rfl) ?_ _
                          go_wp2
                          go_roundw
                          case rel => exact ⟨m - 1, _, Q, by go_num, by omega, hd10, st10, hc10⟩
                          case measure => simp [intOf]; omega
                        exact AllReadyH.nil
                      exact AllReadyH.nil
                    exact AllReadyH.nil
                  exact AllReadyH.nil
                exact AllReadyH.nil
              exact AllReadyH.nil
            exact AllReadyH.nil
          exact AllReadyH.nil
        exact AllReadyH.nil
      exact AllReadyH.nil
    · have hlt' : ¬ (0 : Int) < (m : Int) := by omega
      obtain ⟨gg, hcx, hR, hD, dl, d0, d1, dv, df, rv0, rv1, rv2, f0, f1, f2, ow⟩ := st
      go_wp2
      refine bodyPost_ret (v := .agg #[.int .i64 n, .int .i64 r, .slice A p.length c]) (by simp [results, Tryz.results19, go_sem, rv0, rv1, rv2]) rfl ?_
      have bs : Below w.heap.size wr (((wr.setCell ⟨w.heap.size, 0, none⟩ (.int .i64 n)).setCell ⟨w.heap.size, 1, none⟩ (.int .i64 r)).setCell ⟨w.heap.size, 2, none⟩ (.slice A p.length c)) := (((Below.refl w.heap.size _).setCell (p := ⟨w.heap.size, 0, none⟩) (Nat.le_refl _) _).setCell (p := ⟨w.heap.size, 1, none⟩) (Nat.le_refl _) _).setCell (p := ⟨w.heap.size, 2, none⟩) (Nat.le_refl _) _
      have os := ownsRow_setCell_below (ownsRow_setCell_below (ownsRow_setCell_below ow (a := ⟨w.heap.size, 0, none⟩) (by simp; omega) (.int .i64 n)) (a := ⟨w.heap.size, 1, none⟩) (by simp; omega) (.int .i64 r)) (a := ⟨w.heap.size, 2, none⟩) (by simp; omega) (.slice A p.length c)
      exact ⟨n, r, p, A, c, rfl, ⟨n4, n24⟩, ⟨r1, r8⟩, by omega, HP.out, own_lo os (by omega), hc.blk bs hcx, gr_bl gg bs (Nat.le_refl _)⟩
end Go.Proofs.YthgllpocljeegaaGreatDoor
