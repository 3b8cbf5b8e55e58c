/- The drawn catalog; lengths up to 2^20. -/
import Derived.Test.YtighmoedkknkoaaDrawTune
import Derived.Test.YtighmoedkknkoaaPutS
import Derived.Test.YtighmoedkknkoaaCat0
import Derived.Deep.DeepCutAuto
namespace Go.Proofs.Ytighmoedkknkoaa
open Go.RowKit

def moveP (l : List (Int × Int)) (x : Int) (k : Nat) : List (Int × Int) := (l.take k).map fun a => (a.1 + x, a.2)
theorem moveP_len {l : List (Int × Int)} {x : Int} {k : Nat} (h : k ≤ l.length) : (moveP l x k).length = k := by simp [moveP]; omega
theorem moveP_step {l : List (Int × Int)} {x : Int} {k : Nat} (h : k < l.length) : moveP l x (k + 1) = moveP l x k ++ [((gN l k).1 + x, (gN l k).2)] := by rw [moveP, take_succ_gN h, List.map_append]; rfl
/-- some tune of at most 40 notes, in a row of the call's own -/
def SomeTune (w : World) (en : Ending) (w' : World) : Prop :=
  ∃ (m : List (Int × Int)) (A : Option Addr) (c : Nat) (b : Bool), en = .returned (.tuple #[.slice A m.length c, .bool b]) ∧ m.length ≤ 40 ∧ w'.ownsRow w.heap.size 73 2 (.slice A m.length c) m.length (cN m) ∧ Below w.heap.size w w'
set_option maxHeartbeats 3200000 in
set_option maxRecDepth 100000 in
theorem move_any (v : Value) (l : List (Int × Int)) (x : Int) (w : World) (h1 : RdN w v l) (ht : tuneB l = true) (x0 : 0 ≤ x) (x4 : x ≤ 4) :
    Calls Try.prog 69 #[v, .int .i64 1, .int .i64 x, .int .i64 0] w (SomeTune w) := by
  obtain ⟨A0, c0, rfl, hc0, hm0⟩ := h1.form
  have h40 := (tuneB_iff ht).1
  have hok := (tuneB_iff ht).2
  have HOK := Lib.hid hok
  have ct := tuneS_ok _ l w h1 (by omega)
  rw [ht] at ct
  clear hok ht
  go_enter Try.func69, Try.ntmps69
  go_wp2_with (go_at_call 38; refine ct.mono ?_; rintro e w1 ⟨rfl, b1⟩)
  have own1 : (w1.alloc (Obj.cells #[] 73)).ownsRow w1.heap.size 73 2 (.slice (some ⟨w1.heap.size, 0, none⟩) 0 0) (moveP l x 0).length (cN (moveP l x 0)) := own_new0 (Nat.le_refl _) rfl
  have bel1 : Below w.heap.size w (w1.alloc (Obj.cells #[] 73)) := bl_alloc b1 _
  have sz1 := b1.size
  clear ct b1
  go_loopw [10, 11] (fun a i wr => ∃ k : Nat, k ≤ l.length ∧ i = .int .i64 k ∧ wr.ownsRow w1.heap.size 73 2 a (moveP l x k).length (cN (moveP l x k)) ∧ Below w.heap.size w wr ∧ w1.heap.size ≤ wr.heap.size) (fun _ i _ => l.length - (intOf i).toNat)
  case atStart => exact ⟨0, Nat.zero_le _, rfl, own1, bel1, by simp⟩
  case round =>
    clear own1 bel1
    obtain ⟨k, hk, rfl, ow, bel, szr⟩ := hrel
    obtain ⟨A, c, rfl⟩ := own_form ow
    have hpl := moveP_len (x := x) hk
    by_cases hlt : k < l.length
    · have hlt' : (k : Int) < (l.length : Int) := by omega
      have hnx := Lib.hid (moveP_step (x := x) hlt)
      obtain ⟨b, o, rfl, hb, e0, e1⟩ := RdN.at_ (h1.bl bel) hlt
      obtain ⟨⟨y1, y2⟩, ⟨y3, y4⟩⟩ := okN_bd HOK.out hlt
      have hw0 : IntKind.i64.wrap (gN l k).1 = (gN l k).1 := IntWalk.i64_in _ (by omega)
      have hw1 : IntKind.i64.wrap ((gN l k).1 + x) = (gN l k).1 + x := IntWalk.i64_in _ (by omega)
      have hw2 : IntKind.i64.wrap (gN l k).2 = (gN l k).2 := IntWalk.i64_in _ (by omega)
      obtain ⟨R, hR⟩ : ∃ R, moveP l x k = R := ⟨_, rfl⟩
      rw [hR] at ow hpl hnx
      rw [hR]
      have hRl : R.length ≤ 4194304 := by omega
      have HRL := Lib.hid hRl
      have HPL := Lib.hid hpl
      clear hR hpl hRl h1
      go_wp2
      go_region_law ((refine step_app_N1 _ (by rfl) _ _ (by rfl) w1.heap.size _ R (by rfl) ((ow.alloc (Obj.cells #[.int .i64 ((gN l k).1 + x), .int .i64 (gN l k).2] 73)).drew) wr.heap.size ((gN l k).1 + x) (gN l k).2 (by rfl) (by simp [go_sem]) (by simp [go_sem]) HRL.out (by simp; omega) ?_; intro A2 m2 c2 w2' ow2 bb gr at2; have bel4 : Below w1.heap.size wr w2' := Below.trans ((Below.alloc (Below.refl w1.heap.size wr) szr (Obj.cells #[.int .i64 ((gN l k).1 + x), .int .i64 (gN l k).2] 73)).drew) bb))
      all_goals
        clear hw0 hw1 hw2
        have sz4 := bel4.size
        go_wp2
        go_roundw
        case rel => exact ⟨k + 1, by omega, by go_num, by rw [hnx.out]; exact ow2, bel.trans (bel4.mono (by omega)), by omega⟩
        case measure => simp [intOf]; omega
    · have hke : k = l.length := by omega
      have hlt' : ¬ (k : Int) < (l.length : Int) := by omega
      obtain ⟨R, hR⟩ : ∃ R, moveP l x k = R := ⟨_, rfl⟩
      rw [hR] at ow hpl
      rw [hR]
      have rd : RdN wr (.slice A R.length c) R := Rd.of_own ow
      have hRl : R.length ≤ 40 := by omega
      have cq := tuneS_ok _ R wr rd (by omega)
      cases hq : tuneB R
      · rw [hq] at cq
        have HRL := Lib.hid hRl
        clear hR hpl hke hRl hq
        go_wp2_with (go_at_call 38; refine cq.mono ?_; rintro e w2 ⟨rfl, b2⟩)
        go_wp2_with (go_at_call 46; refine (l02Copy_any _ l _ ((h1.bl bel).bl b2) (by omega)).mono ?_; rintro e w3 ⟨A3, c3, rfl, ow3, b3⟩)
        exact bodyPost_ret (v := .tuple #[.slice A3 l.length c3, .bool false]) (by simp [results, Try.results69, go_sem]) rfl ⟨l, A3, c3, false, rfl, h40, own_lo ow3 (by have := b2.size; omega), bl_to (bl_to bel b2) b3⟩
      · rw [hq] at cq
        have HRL := Lib.hid hRl
        clear hR hpl hke hRl hq
        go_wp2_with (go_at_call 38; refine cq.mono ?_; rintro e w2 ⟨rfl, b2⟩)
        exact bodyPost_ret (v := .tuple #[.slice A R.length c, .bool true]) (by simp [results, Try.results69, go_sem]) rfl ⟨R, A, c, true, rfl, HRL.out, own_lo (own_bl ow b2) sz1, bl_to bel b2⟩
set_option maxHeartbeats 800000 in
theorem later_any (v : Value) (l : List (Int × Int)) (x : Int) (w : World) (h1 : RdN w v l) (ht : tuneB l = true) (x0 : 0 ≤ x) (x4 : x ≤ 4) :
    Calls Try.prog 65 #[v, .int .i64 x] w (SomeTune w) := by
  have hin : inB x (-1000) 1000 = true := inB_yes (by omega) (by omega)
  have cm := move_any v l x w h1 ht x0 x4
  go_enter Try.func65, Try.ntmps65
  go_wp2_with (go_at_call 57; refine (l01In_any _ _ _ _).mono ?_; rintro e w' ⟨rfl, rfl⟩)
  go_wp2_with fail
  refine cm.mono ?_
  rintro e w1 ⟨m, A, c, b, rfl, hm, ow, b1⟩
  go_wp2
  exact bodyPost_ret (v := .tuple #[.slice A m.length c, .bool b]) (by simp [results, Try.results65, go_sem]) rfl ⟨m, A, c, b, rfl, hm, ow, b1⟩
set_option maxHeartbeats 1600000 in
theorem once_any (n : Int) (w0 : World) (cb : Nat) (v : Value) (L : List Int) (w : World) (h0 : RdB w0 v L) (hl : L.length ≤ 1048576) (hc : Cur w0 w cb v L) :
    Calls Try.prog 64 #[.pointer (some ⟨cb, 0, none⟩), .int .i64 n] w fun e w' => ∃ b : Bool, e = .returned (.bool b) ∧ Cur w0 w' cb v L ∧ w.grownBy w' (some cb) := by
  go_enter Try.func64, Try.ntmps64
  go_wp2_with fail
  refine (below_any _ _ _ _ _ _ h0 hl hc).mono ?_
  rintro e w1 ⟨x, _, rfl, hc1, g1⟩
  go_wp2
  go_ret
  exact ⟨_, rfl, hc1, g1⟩
theorem cur_drew {w0 w : World} {cb : Nat} {v : Value} {L : List Int} (h : Cur w0 w cb v L) : Cur w0 w.drew cb v L := h.blk (bl_drew (Below.refl _ _)) h.lt
set_option maxHeartbeats 1600000 in
set_option maxRecDepth 100000 in
theorem pick_any (vl : Value) (l : List ByteArray) (w0 : World) (cb : Nat) (v : Value) (L : List Int) (w : World) (h0 : RdB w0 v L) (hl : L.length ≤ 1048576) (hc : Cur w0 w cb v L) (hr : RdS w vl l) (h9 : l.length = 9) (hne : ∀ b o n c, vl = .slice (some ⟨b, o, none⟩) n c → b ≠ cb) :
    Calls Try.prog 70 #[.pointer (some ⟨cb, 0, none⟩), vl] w fun e w' => ∃ s ∈ l, e = .returned (.string s) ∧ Cur w0 w' cb v L ∧ w.grownBy w' (some cb) := by
  obtain ⟨A, c, rfl, hc1, hm⟩ := Rd.form hr
  have hr' := hr
  obtain ⟨b, o, rfl, hb, _⟩ := RdS.at_ hr (k := 0) (by omega)
  have hbc := hne b o _ _ rfl
  have hp : 0 < (l.length : Int) := by omega
  have hl9 : (l.length : Int) ≤ 9 := by omega
  have H9 := Lib.hid h9
  clear h9 hne
  go_enter Try.func70, Try.ntmps70
  go_wp2_with fail
  refine (below_any _ _ _ _ _ _ h0 hl hc).mono ?_
  rintro e w2 ⟨x, ⟨xl, xu⟩, rfl, hc2, g2⟩
  have xu := xu hp
  obtain ⟨k, rfl⟩ := Int.eq_ofNat_of_zero_le xl
  have hk : k < l.length := by omega
  have hk' : (k : Int) < (l.length : Int) := xu
  obtain ⟨b', o', hA, _, e0⟩ := RdS.at_ hr' hk
  obtain ⟨rfl, rfl⟩ : b = b' ∧ o = o' := by simpa using hA
  have e1 : w2.cell? ⟨b, o + k, none⟩ = some (.string (gS l k)) := ((gr_keeps g2).1 b (o + k) hb hbc).trans e0
  clear hA e0 hr hr' H9
  go_wp2
  go_ret
  exact ⟨_, gS_mem hk, rfl, hc2, g2⟩
theorem nine_row (w : World) : RdS (w.alloc (.cells (nineL.map Value.string).toArray 9)) (.slice (some ⟨w.heap.size, 0, none⟩) 9 9) nineL := by
  refine Rd.of_own (lo := 0) (e := 9) ?_
  exact World.ownsRow_lit w (nineL.map Value.string).toArray 9 (Nat.zero_le _) (by unfold maxLen; omega) rfl
set_option maxHeartbeats 1600000 in
set_option maxRecDepth 100000 in
theorem name_any (w0 : World) (cb : Nat) (v : Value) (L : List Int) (w : World) (h0 : RdB w0 v L) (hl : L.length ≤ 1048576) (hc : Cur w0 w cb v L) :
    Calls Try.prog 66 #[.pointer (some ⟨cb, 0, none⟩)] w fun e w' => ∃ s ∈ nineL, e = .returned (.string s) ∧ Cur w0 w' cb v L ∧ w.grownBy w' (some cb) := by
  have hcl := hc.lt
  have ba := bl_alloc (Below.refl w.heap.size w) (.cells (nineL.map Value.string).toArray 9)
  have hc1 := hc.blk ba hcl
  have cp := pick_any _ nineL w0 cb v L _ h0 hl hc1 (nine_row w) rfl (fun b o n c h => by simp at h; omega)
  have g1 := gr_bl (r := some cb) (World.grownBy.refl _ _) ba (Nat.le_refl _)
  go_enter Try.func66, Try.ntmps66
  go_wp2_with fail
  refine cp.mono ?_
  rintro e w1 ⟨s, hs, rfl, hc2, g2⟩
  go_wp2
  go_ret
  exact ⟨s, hs, rfl, hc2, gr_tr g1 g2⟩
/-- the drawn catalog, in blocks of the call's own -/
def NewCat (w0 : World) (cb : Nat) (v : Value) (L : List Int) (w : World) (en : Ending) (w' : World) : Prop :=
  ∃ (l : List En) (A : Option Addr) (c : Nat), en = .returned (.slice A l.length c) ∧ DrCat l ∧ OwnE w.heap.size w'.heap.size w' (.slice A l.length c) l ∧ Cur w0 w' cb v L ∧ w.grownBy w' (some cb)
theorem OwnE.draw {lo hi cb : Nat} {w w' : World} {v : Value} {l : List En} (h : OwnE lo hi w v l) (g : w.grownBy w' (Option.some cb)) (hc : cb < lo) : OwnE lo hi w' v l :=
  h.apart (World.grownBy.apart g (a := cb) (b := cb + 1) (fun k hk => by cases hk; omega)) (.inr (by omega))
theorem tune_at {lo hi b o c : Nat} {W : World} {l : List En} {v : Value} (h : OwnE lo hi W (.slice (some ⟨b, o, none⟩) l.length c) l) (hl : 0 < l.length) (e : W.cell? ⟨b, o + 1, none⟩ = some v) : RdN W v (gE l 0).2 := by
  obtain ⟨b', o', v', hA, _, _, e1, rd⟩ := h.rd.at_ hl
  obtain ⟨rfl, rfl⟩ : b = b' ∧ o = o' := by simpa using hA
  rw [Nat.zero_mul, Nat.add_zero, e] at e1
  cases e1
  exact rd
set_option maxHeartbeats 6400000 in
set_option maxRecDepth 100000 in
theorem l30List_any (w0 : World) (cb : Nat) (v : Value) (L : List Int) (w : World) (h0 : RdB w0 v L) (hl : L.length ≤ 1048576) (hc : Cur w0 w cb v L) :
    Calls Try.prog 53 #[.pointer (some ⟨cb, 0, none⟩)] w (NewCat w0 cb v L w) := by
  have hcl := hc.lt
  have ba := bl_alloc (Below.refl w.heap.size w) (Obj.cells #[] 41)
  have own1 : OwnE w.heap.size (w.heap.size + 1) (w.alloc (Obj.cells #[] 41)) (.slice (some ⟨w.heap.size, 0, none⟩) 0 0) [] :=
    ⟨w.heap.size, [], OwnT.nil _ _ _ _, own_new0 (Nat.le_refl _) rfl, fun b h => by simp [Value.ownBlock] at h; omega⟩
  have hc1 := hc.blk ba hcl
  have ga := gr_bl (r := some cb) (World.grownBy.refl _ _) ba (Nat.le_refl _)
  go_enter Try.func53, Try.ntmps53
  go_wp2_with (go_at_call 63; refine (below_any _ _ _ _ _ _ h0 hl hc1).mono ?_; rintro e w1 ⟨n, ⟨n0, n1⟩, rfl, hc2, g1⟩)
  obtain ⟨N, rfl⟩ := Int.eq_ofNat_of_zero_le n0
  have hN : N ≤ 6 := by have := n1 (by omega); omega
  have own2 := (own1.draw g1 hcl).hig (hi' := w1.heap.size) (Nat.le_refl _)
  have gb := gr_tr ga g1
  clear hc hc1 own1 g1 n0 n1 ga ba
  go_loopw [3, 4] (fun a i wr => ∃ (m : Nat) (l : List En), i = .int .i64 m ∧ l.length + m ≤ 6 ∧ DrCat l ∧ OwnE w.heap.size wr.heap.size wr a l ∧ Cur w0 wr cb v L ∧ w.grownBy wr (some cb)) (fun _ i _ => (intOf i).toNat)
  case atStart => exact ⟨N, [], rfl, by simpa using hN, drcat_nil, own2, hc2, gb⟩
  case round =>
    clear own2 hc2 gb
    obtain ⟨m, l, rfl, hm6, hd, ow, hc, gg⟩ := hrel
    obtain ⟨A, c, rfl⟩ := ow.form
    have HD := Lib.hid hd
    have hsz := drcat_sz hd
    have hl6 := hd.len
    clear hd
    by_cases hlt : 0 < m
    · have hlt' : (0 : Int) < (m : Int) := by omega
      have szr := gg.size
      go_wp2_with fail
      refine (l02Tune_any _ _ _ _ _ h0 hl hc).mono ?_
      rintro e w2 ⟨m1, A1, c1, rfl, hm11, ht1, _, ow1, hc2, g2⟩
      have ow2 := ow.draw g2 hcl
      have gg2 := gr_tr gg g2
      have sz2 := g2.size
      have r1 := own_lo (lo' := w.heap.size) ow1 szr
      have hm40 : m1.length ≤ 40 := by omega
      clear hc g2 gg ht1 hm11
      by_cases hz : l.length = 0
      · have hzi : ¬ (0 : Int) < (l.length : Int) := by omega
        clear hz
        go_wp2_with fail
        refine (name_any _ _ _ _ _ h0 hl hc2).mono ?_
        rintro e w7 ⟨s, hs, rfl, hc7, g7⟩
        have ow7 := ow2.draw g7 hcl
        have gg7 := gr_tr gg2 g7
        have r7 : RdN w7 (.slice A1 m1.length c1) m1 := Rd.of_own (own_draw r1 g7 hcl)
        have hs7 := nine_size s hs
        have HS := Lib.hid hs
        clear hs
        go_wp2_with fail
        refine (putS_any _ s _ m1 l w7 ow7.rd r7 (by omega)).mono ?_
        rintro e w8 ⟨A8, c8, rfl, ow8, b8⟩
        have hd8 := putL_nine (m := m1) HD.out HS.out (by omega)
        have hl8 := putL_one l (s, m1)
        have sz7 := gg7.size
        have hc8 := hc7.blk b8 hc7.lt
        have gg8 := gr_bl gg7 b8 sz7
        generalize putL l (s, m1) = X at *
        generalize putQ l (s, m1) = q at *
        go_wp2
        go_roundw
        case rel => exact ⟨m - 1, X, by go_num, by omega, hd8, ow8.mono sz7 (Nat.le_refl _), hc8, gg8⟩
        case measure => simp [intOf]; omega
      · have hzi : (0 : Int) < (l.length : Int) := by omega
        have hz1 : 0 < l.length := by omega
        have hz2 : ¬ l.length = 0 := hz
        go_wp2_with fail
        refine (once_any _ _ _ _ _ _ h0 hl hc2).mono ?_
        rintro e w3 ⟨b, rfl, hc3, g3⟩
        have ow3 := ow2.draw g3 hcl
        have gg3 := gr_tr gg2 g3
        have sz3 := g3.size
        have r3 := own_draw r1 g3 hcl
        clear hc2 g3 gg2 ow2 r1 ow1
        cases b
        · skip
          go_wp2_with fail
          refine (name_any _ _ _ _ _ h0 hl hc3).mono ?_
          rintro e w7 ⟨s, hs, rfl, hc7, g7⟩
          have ow7 := ow3.draw g7 hcl
          have gg7 := gr_tr gg3 g7
          have r7 : RdN w7 (.slice A1 m1.length c1) m1 := Rd.of_own (own_draw r3 g7 hcl)
          have hs7 := nine_size s hs
          have HS := Lib.hid hs
          clear hs
          go_wp2_with fail
          refine (putS_any _ s _ m1 l w7 ow7.rd r7 (by omega)).mono ?_
          rintro e w8 ⟨A8, c8, rfl, ow8, b8⟩
          have hd8 := putL_nine (m := m1) HD.out HS.out (by omega)
          have hl8 := putL_one l (s, m1)
          have sz7 := gg7.size
          have hc8 := hc7.blk b8 hc7.lt
          have gg8 := gr_bl gg7 b8 sz7
          generalize putL l (s, m1) = X at *
          generalize putQ l (s, m1) = q at *
          go_wp2
          go_roundw
          case rel => exact ⟨m - 1, X, by go_num, by omega, hd8, ow8.mono sz7 (Nat.le_refl _), hc8, gg8⟩
          case measure => simp [intOf]; omega
        · have ht0 : tuneB (gE l 0).2 = true := by
            have := okC_at (catB_iff.1 HD.out.ok).2 hz1
            simp only [enB, Bool.and_eq_true] at this
            exact this.1.2
          obtain ⟨b0, o0, v0, rfl, hb0, e0, e1, rd0⟩ := ow3.rd.at_ hz1
          rw [Nat.zero_mul, Nat.add_zero] at e0 e1
          obtain ⟨A0, c0, rfl, _, _⟩ := rd0.form
          have hb0c : b0 ≠ cb := by
            obtain ⟨g, t, _, how, hgb⟩ := ow3
            have := how.lt b0 rfl
            omega
          go_upto_region 7 with (fail)
          go_cut [5] (fun s wx => ∃ (m2 : List (Int × Int)) (A2 : Option Addr) (c2 : Nat), s = .slice A2 m2.length c2 ∧ m2.length ≤ 40 ∧ wx.ownsRow w.heap.size 73 2 (.slice A2 m2.length c2) m2.length (cN m2) ∧ OwnE w.heap.size wx.heap.size wx (.slice (some ⟨b0, o0, none⟩) l.length c) l ∧ Cur w0 wx cb v L ∧ w.grownBy wx (some cb))
          case first =>
            have hcd := cur_drew hc3
            have owd : OwnE w.heap.size w3.drew.heap.size w3.drew (.slice (some ⟨b0, o0, none⟩) l.length c) l := (ow3.bl (bl_drew (Below.refl _ _))).hig (Nat.le_refl _)
            have ggd := gr_drew gg3
            clear rd0
            go_region_with (first
              | (go_at_call 63; refine (below_any _ _ _ _ _ _ h0 hl hcd).mono ?_; rintro e w5 ⟨x, ⟨xl, xu⟩, rfl, hc5, g5⟩; have xu := xu (by omega); have ow5 := owd.draw g5 hcl; have gg5 := gr_tr ggd g5; have e5 : w5.cell? ⟨b0, o0 + 1, none⟩ = some (.slice A0 (gE l 0).2.length c0) := ((gr_keeps g5).1 b0 (o0 + 1) hb0 hb0c).trans e1; have r5 := tune_at ow5 hz1 e5)
              | (go_at_call 65; refine (later_any _ _ _ _ r5 ht0 xl (by omega)).mono ?_; rintro e w6 ⟨m2, A2, c2, bq, rfl, hm2, ow6, b6⟩))
            all_goals
              have s5 := gg5.size
              go_wp2_with fail
              go_meet
              exact ⟨m2, A2, c2, rfl, hm2, own_lo ow6 s5, (ow5.bl b6).hig (Nat.le_refl _), hc5.blk b6 hc5.lt, gr_bl gg5 b6 s5⟩
          case rest =>
            obtain ⟨m2, A2, c2, rfl, hm2, r4, ow4, hc4, gg4⟩ := hcut
            obtain ⟨w4, rfl⟩ : ∃ x : World, x = wc := ⟨_, rfl⟩
            have sz4 := gg4.size
            go_wp2_with fail
            refine (name_any _ _ _ _ _ h0 hl hc4).mono ?_
            rintro e w7 ⟨s, hs, rfl, hc7, g7⟩
            have ow7 := ow4.draw g7 hcl
            have gg7 := gr_tr gg4 g7
            have r7 : RdN w7 (.slice A2 m2.length c2) m2 := Rd.of_own (own_draw r4 g7 hcl)
            have hs7 := nine_size s hs
            have HS := Lib.hid hs
            clear hs
            go_wp2_with fail
            refine (putS_any _ s _ m2 l w7 ow7.rd r7 (by omega)).mono ?_
            rintro e w8 ⟨A8, c8, rfl, ow8, b8⟩
            have hd8 := putL_nine (m := m2) HD.out HS.out (by omega)
            have hl8 := putL_one l (s, m2)
            have sz7 := gg7.size
            have hc8 := hc7.blk b8 hc7.lt
            have gg8 := gr_bl gg7 b8 sz7
            generalize putL l (s, m2) = X at *
            generalize putQ l (s, m2) = q at *
            go_wp2
            go_roundw
            case rel => exact ⟨m - 1, X, by go_num, by omega, hd8, ow8.mono sz7 (Nat.le_refl _), hc8, gg8⟩
            case measure => simp [intOf]; omega
    · have hlt' : ¬ (0 : Int) < (m : Int) := by omega
      go_wp2
      go_ret
      exact ⟨l, A, c, rfl, HD.out, ow, hc, gg⟩
set_option maxHeartbeats 800000 in
theorem drawCat_any (v : Value) (L : List Int) (w : World) (h0 : RdB w v L) (hl : L.length ≤ 1048576) : Calls Try.prog 32 #[v] w fun en w' => ∃ (l : List En) (A : Option Addr) (c : Nat), en = .returned (.slice A l.length c) ∧ DrCat l ∧ OwnE w.heap.size w'.heap.size w' (.slice A l.length c) l ∧ Below w.heap.size w w' := by
  go_enter Try.func32, Try.ntmps32
  go_wp2_with fail
  refine (new_any _ _ _ h0 hl).mono ?_
  rintro e w1 ⟨rfl, hc1⟩
  go_wp2_with fail
  refine (l30List_any _ _ _ _ _ h0 hl hc1).mono ?_
  rintro e w2 ⟨l, A, c, rfl, hd, ow, hc2, g2⟩
  go_wp2
  go_ret
  exact ⟨l, A, c, rfl, hd, ow.mono hc1.bel.size (Nat.le_refl _), hc2.bel⟩
end Go.Proofs.Ytighmoedkknkoaa
