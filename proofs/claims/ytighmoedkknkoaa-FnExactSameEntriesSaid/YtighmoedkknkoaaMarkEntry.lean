/- Slices of Entry: the laws' marks and the look again; sizes up to 2^20. -/
import Derived.Test.YtighmoedkknkoaaOwnEntry
import Derived.Test.YtighmoedkknkoaaMarkNote
import Derived.Test.YtighmoedkknkoaaQB
import Derived.Test.YtighmoedkknkoaaMarkText
namespace Go.Proofs.Ytighmoedkknkoaa
open Go.RowKit Go.Sort

/-- what the marks come to -/
def cntE : List En → Nat
  | [] => 0
  | e :: l => 1 + 2 * e.2.length + cntE l
/-- the marked entries, from k on -/
def mkE : Nat → List En → List En
  | _, [] => []
  | k, e :: l => (mkT k, upN ((k : Int) + 1) e.2.length) :: mkE (k + (1 + 2 * e.2.length)) l
theorem cntE_append (a b : List En) : cntE (a ++ b) = cntE a + cntE b := by
  induction a with
  | nil => simp [cntE]
  | cons x a ih => rw [List.cons_append, cntE, cntE, ih]; omega
theorem mkE_append (k : Nat) (a b : List En) : mkE k (a ++ b) = mkE k a ++ mkE (k + cntE a) b := by
  induction a generalizing k with
  | nil => simp [cntE, mkE]
  | cons x a ih => rw [List.cons_append, mkE, mkE, ih, cntE, List.cons_append, Nat.add_assoc k]
theorem mkE_len (k : Nat) (l : List En) : (mkE k l).length = l.length := by
  induction l generalizing k with
  | nil => rfl
  | cons x l ih => rw [mkE, List.length_cons, List.length_cons, ih]
theorem cntE_take {l : List En} {j : Nat} (h : j < l.length) : cntE (l.take (j + 1)) = cntE (l.take j) + (1 + 2 * (gE l j).2.length) := by
  rw [take_succ_gE h, cntE_append, cntE, cntE]; omega
theorem cntE_le (l : List En) (j : Nat) : cntE (l.take j) ≤ cntE l := by
  have := cntE_append (l.take j) (l.drop j)
  rw [List.take_append_drop] at this
  omega
theorem cntE_sz (l : List En) : cntE l ≤ l.length + 2 * szE l := by
  induction l with
  | nil => simp [cntE, szE]
  | cons x l ih => rw [cntE, szE, List.length_cons]; omega
theorem mkE_take {k : Nat} {l : List En} {j : Nat} (h : j < l.length) : mkE k (l.take (j + 1)) = mkE k (l.take j) ++ [(mkT (k + cntE (l.take j)), upN (((k + cntE (l.take j) : Nat) : Int) + 1) (gE l j).2.length)] := by
  rw [take_succ_gE h, mkE_append, mkE, mkE]
theorem mkE_get {k : Nat} {l : List En} {j : Nat} (h : j < l.length) : gE (mkE k l) j = (mkT (k + cntE (l.take j)), upN (((k + cntE (l.take j) : Nat) : Int) + 1) (gE l j).2.length) := by
  have e : mkE k l = mkE k (l.take (j + 1)) ++ mkE (k + cntE (l.take (j + 1))) (l.drop (j + 1)) := by rw [← mkE_append, List.take_append_drop]
  rw [e, mkE_take h]
  have hl : (mkE k (l.take j)).length = j := by rw [mkE_len, List.length_take]; omega
  rw [gE, List.getD_eq_getElem?_getD, List.append_assoc, List.getElem?_append_right (by omega), hl, Nat.sub_self]
  rfl
theorem mk_set {k : Nat} {l : List En} {j : Nat} (h : j < l.length) : (mkE k (l.take j) ++ l.drop j).set j (mkT (k + cntE (l.take j)), upN (((k + cntE (l.take j) : Nat) : Int) + 1) (gE l j).2.length) = mkE k (l.take (j + 1)) ++ l.drop (j + 1) := by
  have hl : (mkE k (l.take j)).length = j := by rw [mkE_len, List.length_take]; omega
  rw [List.set_append_right _ _ (by omega), hl, Nat.sub_self, mkE_take h, List.append_assoc, List.drop_eq_getElem_cons h]
  rfl
theorem OwnT.set {lo hi g j : Nat} {w w' : World} {t : List (ByteArray × Value)} {l : List En} (h : OwnT lo hi g w t l) (hj : j < l.length) {s : ByteArray} {m : List (Int × Int)}
    (hw : ∀ i, i < l.length → i ≠ j → w'.ownsRow lo 73 2 (gT t i).2 (gE l i).2.length (cN (gE l i).2)) (hn : w'.ownsRow lo 73 2 (gT t j).2 m.length (cN m)) : OwnT lo hi g w' (t.set j (s, (gT t j).2)) (l.set j (s, m)) := by
  have hjt : j < t.length := by rw [h.len]; exact hj
  have e1 : ∀ i, i ≠ j → gT (t.set j (s, (gT t j).2)) i = gT t i := fun i hi => by generalize (s, (gT t j).2) = x; simp only [gT, List.getD_eq_getElem?_getD, List.getElem?_set_ne (fun e => hi e.symm)]
  have e2 : gT (t.set j (s, (gT t j).2)) j = (s, (gT t j).2) := by rw [gT, List.getD_eq_getElem?_getD, List.getElem?_set_self hjt]; rfl
  have e3 : ∀ i, i ≠ j → gE (l.set j (s, m)) i = gE l i := fun i hi => by simp only [gE, List.getD_eq_getElem?_getD, List.getElem?_set_ne (fun e => hi e.symm)]
  have e4 : gE (l.set j (s, m)) j = (s, m) := by rw [gE, List.getD_eq_getElem?_getD, List.getElem?_set_self hj]; rfl
  have e5 : ∀ i, (gT (t.set j (s, (gT t j).2)) i).2 = (gT t i).2 := fun i => by
    by_cases hi : i = j
    · subst hi; rw [e2]
    · rw [e1 i hi]
  refine ⟨by rw [List.length_set, List.length_set, h.len], fun i hi => ?_, fun i hi => ?_, fun i b hi e => ?_, fun i i' b hi hi' e e' => ?_⟩
  · rw [List.length_set] at hi
    by_cases q : i = j
    · subst q; rw [e2, e4]
    · rw [e1 i q, e3 i q]; exact h.nm i hi
  · rw [List.length_set] at hi
    by_cases q : i = j
    · subst q; rw [e2, e4]; exact hn
    · rw [e1 i q, e3 i q]; exact hw i hi q
  · rw [List.length_set] at hi; rw [e5] at e; exact h.thi i b hi e
  · rw [List.length_set] at hi hi'; rw [e5] at e e'; exact h.ap i i' b hi hi' e e'
theorem set_same {α : Type} {l : List α} {i : Nat} {a : α} (h : l[i]? = some a) : l.set i a = l := by
  apply List.ext_getElem?
  intro j
  rw [List.getElem?_set]
  split
  · rename_i e
    subst e
    rw [h]
    split
    · rfl
    · rename_i hn
      rw [List.getElem?_eq_none (by omega)] at h
      cases h
  · rfl
theorem cE_set0 (t : List (ByteArray × Value)) (k : Nat) (s : ByteArray) (h : k < t.length) : (cE t).set (k * 2) (.string s) = cE (t.set k (s, (gT t k).2)) := by
  have e := cE_set t k (s, (gT t k).2) h
  have e2 : ((cE t).set (k * 2) (.string s))[k * 2 + 1]? = some (gT t k).2 := by rw [List.getElem?_set_ne (by omega)]; exact cE_get1 h
  rw [← e, set_same e2]
set_option maxHeartbeats 3200000 in
set_option maxRecDepth 100000 in
theorem markEntryS_any (lo hi : Nat) (v : Value) (l : List En) (k : Nat) (w : World) (h1 : OwnE lo hi w v l) (hl : l.length + szE l ≤ 1048577) (hlo : hi ≤ w.heap.size) (hk0 : 0 < k) (hk1 : k ≤ 900000000) :
    Calls Try.prog 18 #[v, .int .i64 (k : Int)] w fun e w' => e = .returned (.int .i64 ((k + cntE l : Nat) : Int)) ∧ OwnE lo hi w' v (mkE k l) ∧ Apart lo hi w w' := by
  obtain ⟨A1, c1, rfl⟩ := h1.form
  have hcl := cntE_sz l
  go_enter Try.func18, Try.ntmps18
  go_wp2
  go_loopw [1, 5] (fun q i wr => ∃ j : Nat, j ≤ l.length ∧ i = .int .i64 j ∧ q = .int .i64 ((k + cntE (l.take j) : Nat) : Int) ∧ OwnE lo hi wr (.slice A1 l.length c1) (mkE k (l.take j) ++ l.drop j) ∧ Apart lo hi w wr) (fun _ i _ => l.length - (intOf i).toNat)
  case atStart => exact ⟨0, Nat.zero_le _, rfl, by simp [cntE], by simpa [mkE] using h1, Apart.refl _ _ _⟩
  case round =>
    obtain ⟨j, hj, rfl, rfl, ow, ap⟩ := hrel
    by_cases hlt : j < l.length
    · have ct := cntE_take hlt
      have cl := cntE_le l (j + 1)
      have hat := szE_at hlt
      have hset := mk_set (k := k) hlt
      obtain ⟨K, hK⟩ : ∃ K, k + cntE (l.take j) = K := ⟨_, rfl⟩
      obtain ⟨m, hm⟩ : ∃ m, (gE l j).2 = m := ⟨_, rfl⟩
      obtain ⟨K2, hK2⟩ : ∃ K2, k + cntE (l.take (j + 1)) = K2 := ⟨_, rfl⟩
      obtain ⟨M, hM⟩ : ∃ M, mkE k (l.take j) ++ l.drop j = M := ⟨_, rfl⟩
      obtain ⟨M2, hM2⟩ : ∃ M, mkE k (l.take (j + 1)) ++ l.drop (j + 1) = M := ⟨_, rfl⟩
      have hml : M.length = l.length := by rw [← hM, List.length_append, mkE_len, List.length_take, List.length_drop]; omega
      have hmj : gE M j = gE l j := by
        have h0 : (mkE k (l.take j)).length = j := by rw [mkE_len, List.length_take]; omega
        rw [← hM, gE, gE, List.getD_eq_getElem?_getD, List.getD_eq_getElem?_getD, List.getElem?_append_right (by omega), h0, Nat.sub_self, List.getElem?_drop, Nat.add_zero]
      rw [hK, hm, hM, hM2] at hset
      rw [hm] at ct hat
      rw [hM] at ow
      have hmj2 : (gE M j).2 = m := by rw [hmj, hm]
      obtain ⟨g, t, ot, or, ob⟩ := ow
      have hA : ∃ G, A1 = some ⟨G, 0, none⟩ := by
        rcases or.2 with ⟨hv, _⟩ | ⟨G, cap, cur, hv, _⟩
        · simp at hv; omega
        · simp only [Value.slice.injEq] at hv; exact ⟨G, hv.1⟩
      obtain ⟨G, rfl⟩ := hA
      obtain rfl : G = g := (ob G rfl).1
      rw [hml] at or
      have htl : t.length = l.length := by rw [ot.len, hml]
      have tj := ot.tn j (by omega)
      rw [hmj2] at tj
      obtain ⟨At, ct', hvt⟩ := own_form tj
      have y0 : wr.cell? ⟨G, j * 2, none⟩ = some (.string (gT t j).1) := (or.cellAt _ (by omega)).trans (cE_get0 (by omega))
      have y1 : wr.cell? ⟨G, j * 2 + 1, none⟩ = some (.slice At m.length ct') := (or.cellAt _ (by omega)).trans ((cE_get1 (by omega)).trans (by rw [hvt]))
      have f0 := or.frozenAt (j * 2)
      have hGl := (or.lt G rfl)
      have hne : ∀ b, (gT t j).2.ownBlock = some b → b ≠ G := fun b e => (ot.thi j b (by omega) e).2
      have hlt' : (j : Int) < (l.length : Int) := by omega
      have hkb : K ≤ 950000000 := by omega
      have hk00 : 0 < K := by omega
      have hnb : m.length ≤ 1048576 := by omega
      have cm := fun W => markText_any K W hk00 (by omega)
      have tj' : wr.ownsRow lo 73 2 (.slice At m.length ct') m.length (cN m) := by rw [← hvt]; exact tj
      have hnev : (Value.slice At m.length ct').ownBlock ≠ some G := fun e => hne G (by rw [hvt]; exact e) rfl
      have ck := fun W (h : W.ownsRow lo 73 2 (.slice At m.length ct') m.length (cN m)) => markNoteS_any lo (.slice At m.length ct') m ((K : Int) + 1) W h (by omega) (by omega) (by omega)
      have CM := Lib.hid cm
      have CK := Lib.hid ck
      have HK2 := Lib.hid hK2
      have HM := Lib.hid hM2
      have hkk : K2 = K + 1 + 2 * m.length := by omega
      have szw := ap.size
      rw [hK]
      clear hK hK2 hM hM2 h1 ct cl cm ck hm hmj hmj2
      go_wp2_with (first | (go_at_call 42; refine (CM.out _).mono ?_; rintro e w2 ⟨rfl, b2⟩; have y0 := (b2.cell (p := ⟨G, j * 2, none⟩) hGl.2).trans y0; have y1 := (b2.cell (p := ⟨G, j * 2 + 1, none⟩) hGl.2).trans y1; have f0 := (b2.frozen (p := ⟨G, j * 2, none⟩) hGl.2).trans f0) | (go_at_call 43; refine (CK.out _ (own_setE (own_bl tj' b2) (a := ⟨G, j * 2, none⟩) hnev _)).mono ?_; rintro e w4 ⟨rfl, om, gr⟩))
      have apb : Apart lo hi wr w2 := ⟨b2.os, b2.tape, b2.output, b2.size, fun i hi _ => b2.block i hi⟩
      have aps : Apart lo hi w2 (w2.setCell ⟨G, j * 2, none⟩ (.string (mkT K))) := ⟨rfl, rfl, rfl, by simp, fun i hi hj => Below.heap_setCell _ _ _ _ (fun e => by have := (ob G rfl).2; simp at e; omega)⟩
      have apg := World.grownBy.apart gr (a := lo) (b := hi) (fun b e => ⟨(tj'.lt b e).1, (ot.thi j b (by omega) (by rw [hvt]; exact e)).1⟩)
      have row := own_same ((own_bl or b2).stored (j * 2) (.string (mkT K))).1 (w' := w4) (fun b e => gr.block b (by rw [World.size_setCell]; exact ((own_bl or b2).lt b e).2) (fun q => hnev (by rw [← q]; simpa [Value.ownBlock] using e.symm)))
      rw [cE_set0 t j _ (by omega)] at row
      have ot2 : OwnT lo hi G w4 (t.set j (mkT K, (gT t j).2)) M2 := by
        rw [← hset]
        refine ot.set (by omega) (fun i hi' hij => ?_) (by rw [hvt, upN_len]; exact om)
        have o1 := ot.tn i hi'
        have o2 := own_setE (own_bl o1 b2) (a := ⟨G, j * 2, none⟩) (fun e => (ot.thi i G hi' e).2 rfl) (.string (mkT K))
        exact own_same o2 fun b e => gr.block b (by rw [World.size_setCell]; exact ((own_bl o1 b2).lt b e).2) (fun q => hij (ot.ap i j b hi' (by omega) e (by rw [hvt]; exact q.symm)))
      have hm2l : M2.length = l.length := by rw [← hset, List.length_set, hml]
      have OW : Hid (OwnE lo hi w4 (.slice (some ⟨G, 0, none⟩) l.length c1) M2) := ⟨G, _, ot2, by rw [hm2l]; exact row, ob⟩
      have AP := Lib.hid ((ap.trans apb).trans (aps.trans apg))
      clear ot2 row om gr apb aps apg hset hm2l
      go_roundw
      case rel => exact ⟨j + 1, by omega, by go_num, by rw [HK2.out, hkk]; go_num, by rw [HM.out]; exact OW.out, AP.out⟩
      case measure => simp [intOf]; omega
    · obtain rfl : j = l.length := by omega
      have hlt' : ¬ (l.length : Int) < (l.length : Int) := by omega
      rw [List.take_length, List.drop_length, List.append_nil] at ow
      go_wp2
      go_ret
      exact ⟨ret_int (by first | rfl | rw [List.take_length]), ow, ap⟩
set_option maxHeartbeats 3200000 in
set_option maxRecDepth 100000 in
theorem heldEntryS_any (v : Value) (l : List En) (k : Nat) (w : World) (h1 : RdE w v (mkE k l)) (hl : l.length + szE l ≤ 1048577) (hk0 : 0 < k) (hk1 : k ≤ 900000000) :
    Calls Try.prog 19 #[v, .int .i64 (k : Int)] w fun e w' => e = .returned (.int .i64 ((k + cntE l : Nat) : Int)) ∧ Below w.heap.size w w' := by
  obtain ⟨A1, c1, rfl, _, hm⟩ := h1.form
  have hcl := cntE_sz l
  rw [mkE_len] at *
  go_enter Try.func19, Try.ntmps19
  go_wp2
  go_loopw [1, 5] (fun q i wr => ∃ j : Nat, j ≤ l.length ∧ i = .int .i64 j ∧ q = .int .i64 ((k + cntE (l.take j) : Nat) : Int) ∧ Below w.heap.size w wr) (fun _ i _ => l.length - (intOf i).toNat)
  case atStart => exact ⟨0, Nat.zero_le _, rfl, by simp [cntE], Below.refl _ _⟩
  case round =>
    obtain ⟨j, hj, rfl, rfl, bel⟩ := hrel
    by_cases hlt : j < l.length
    · have h2 := h1.bl bel
      rw [show l.length = (mkE k l).length by rw [mkE_len]] at h2
      obtain ⟨b, o, vt, rfl, hb, e0, e1, rt⟩ := RdE.at_ h2 (k := j) (by rw [mkE_len]; exact hlt)
      rw [mkE_get hlt] at e0 rt
      have ct := cntE_take hlt
      have cl := cntE_le l (j + 1)
      have hat := szE_at hlt
      obtain ⟨K, hK⟩ : ∃ K, k + cntE (l.take j) = K := ⟨_, rfl⟩
      obtain ⟨n, hn⟩ : ∃ n, (gE l j).2.length = n := ⟨_, rfl⟩
      obtain ⟨K2, hK2⟩ : ∃ K2, k + cntE (l.take (j + 1)) = K2 := ⟨_, rfl⟩
      rw [hK, hn] at e0 rt
      have hlt' : (j : Int) < (l.length : Int) := by omega
      have HK2 := Lib.hid hK2
      have hkk : K2 = K + 1 + 2 * n := by omega
      have hkb : K ≤ 950000000 := by omega
      have hk00 : 0 < K := by omega
      have hnb : n ≤ 1048576 := by omega
      have cm := fun W => markText_any K W hk00 (by omega)
      have ch := fun W (h : Rd W 2 vt n (cN (upN ((K : Int) + 1) n))) => heldNoteS_any vt n ((K : Int) + 1) W h (by omega) (by omega) (by omega)
      have rt' : Rd wr 2 vt n (cN (upN ((K : Int) + 1) n)) := by have := rt; simp only [RdN, upN_len] at this; exact this
      have CM := Lib.hid cm
      have CH := Lib.hid ch
      have g0 := cell_regrown e0
      have g1 := cell_regrown e1
      rw [hK]
      clear hK hK2 h1 h2 rt ct cl cm ch e0 hn
      go_wp2
      (refine wp_region_quiet_below (by kernel_rfl) (by kernel_rfl) ?_; (repeat (first | go_big_quiet_skip | (go_big_quiet_want; go_big_quiet_op; (first | go_big_quiet_on | (apply Exists.intro; refine ⟨fun _ => ?_, ?_⟩; (focus (first | (go_at_call 42; exact Calls.regrown_of (CM.out _)) | fail)); go_big_quiet_on))))); refine wpQuiet_nil ?_; (intro wq hwq; have bq := rg_below hwq; clear hwq))
      have e1' := (bq.cell (p := ⟨b, o + j * 2 + 1, none⟩) hb).trans e1
      have rt2 := rt'.bl bq
      have belq := bl_to bel bq
      have hz : ¬ (K : Int) + 1 + 2 * (n : Int) < 0 := by omega
      clear g0 g1 CM rt' bq bel e1
      go_wp2_with (go_at_call 44; refine (CH.out _ rt2).mono ?_; rintro e w' ⟨rfl, rfl⟩)
      go_roundw
      case rel => exact ⟨j + 1, by omega, by go_num, by rw [HK2.out, hkk]; go_num, belq⟩
      case measure => simp [intOf]; omega
    · obtain rfl : j = l.length := by omega
      have hlt' : ¬ (l.length : Int) < (l.length : Int) := by omega
      go_wp2
      go_ret
      exact ⟨ret_int (by first | rfl | rw [List.take_length]), bel⟩
end Go.Proofs.Ytighmoedkknkoaa
