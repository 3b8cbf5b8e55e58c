/- ReadGrid of the program; lengths up to 2^20. -/
import Derived.Test.YthgllpocljeegaaGreatDoorReadGrid0
namespace Go.Proofs.YthgllpocljeegaaGreatDoor
open Go.RowKit

theorem own_form3 {w : World} {lo : Nat} {e : TypeId} {s n : Nat} {v : Value} {xs : List Value} (h : w.ownsRow lo e s v n xs) : ∃ A m c, v = .slice A m c := by
  obtain ⟨A, c, h⟩ := own_form h
  exact ⟨A, n, c, h⟩
theorem rg_no {L : List ByteArray} (h : rgB L = false) : rgS L = 0 ∧ rgT L = 0 ∧ rgL L = [] := by simp [rgS, rgT, rgL, h]
theorem CylinderSt.put {w0 wr w2 : World} {D : Nat} {n r : Int} {v v' : Value} {L L' : List (Int × Int)} (h : CylinderSt w0 D wr n r v L) (b : Below wr.heap.size wr w2) (ow : w2.ownsRow wr.heap.size 44 2 v' L'.length (cP L')) : CylinderSt w0 D (w2.setCell ⟨D, 2, none⟩ v') n r v' L' := by
  have hlt := h.dl
  have c := fun k => b.cell (p := ⟨D, k, none⟩) hlt
  refine ⟨(h.bel.trans (b.mono (by omega))).setCell (Nat.le_refl _) _, by simpa using Nat.lt_of_lt_of_le h.dl b.size, (World.cell?_setCell_other _ _ _ _ (by simp)).trans ((c 0).trans h.d0), (World.cell?_setCell_other _ _ _ _ (by simp)).trans ((c 1).trans h.d1), World.cell?_setCell_same _ _ _ ((c 2).trans h.dv), ?_, ownsRow_setCell_below (own_lo (lo' := D + 1) ow (by omega)) (by show D < D + 1; omega) _⟩
  have := (b.frozen (p := ⟨D, 2, none⟩) hlt).trans h.fv
  simpa [go_sem] using this
set_option maxHeartbeats 6400000 in
set_option maxRecDepth 100000 in
theorem rgI_any (v : Value) (L : List ByteArray) (w : World) (h1 : RdS w v L) (hl : L.length ≤ 1048576) :
    Calls Tryz.prog 10 #[v] w (NewCylB (rgS L) (rgT L) (rgL L) (rgB L) w) := by
  obtain ⟨A1, c1, rfl, hc, hm⟩ := Rd.form h1
  unfold maxLen at hm
  cases hi : inB L.length 1 100
  · have hB : rgB L = false := by simp [rgB, hi]
    obtain ⟨e1, e2, e3⟩ := rg_no hB
    rw [hB, e1, e2, e3]
    clear hB e1 e2 e3
    go_enter Tryz.func10, Tryz.ntmps10
    go_wp2_with (go_at_call 22; refine (within_any _ _ _ _).mono ?_; rintro e w' ⟨rfl, rfl⟩)
    exact bodyPost_ret (v := .tuple #[.agg #[.int .i64 0, .int .i64 0, .slice none 0 0], .bool false]) (by simp [results, Tryz.results10, go_sem]) rfl ⟨none, 0, rfl, World.ownsRow_nil _ _ _ _, by (repeat' (first | (with_reducible exact Below.refl _ _) | (with_reducible refine bl_alloc ?_ _) | (with_reducible refine bl_drewN ?_ _) | (with_reducible refine bl_drew ?_) | (with_reducible assumption) | (with_reducible refine bl_to ?_ (by assumption)) | (with_reducible refine Below.trans ?_ (by assumption)) | (with_reducible refine Below.trans ?_ (Below.mono (by assumption) ?_)) | (with_reducible refine bl_set ?_ ?_ _) | (simp; done) | (simp; omega) | omega))⟩
  obtain ⟨n1, n2⟩ := inB_iff.1 hi
  have hl0 : 0 < L.length := by omega
  have hl0' : (0 : Int) < (L.length : Int) := by omega
  obtain ⟨b, o, rfl, hb, e0⟩ := RdS.at_ h1 hl0
  rw [Nat.add_zero] at e0
  obtain ⟨s0, hs0⟩ : ∃ s0, gS L 0 = s0 := ⟨_, rfl⟩
  rw [hs0] at e0
  have e0' := (World.cell?_alloc_lt w (Obj.cells #[.int .i64 0, .int .i64 0, .slice none 0 0] 31) ⟨b, o, none⟩ hb).trans e0
  obtain ⟨S, hS⟩ : ∃ S, s0.size = S := ⟨_, rfl⟩
  cases hj : inB S 4 96
  · have hB : rgB L = false := by simp [rgB, hs0, hS, hj]
    obtain ⟨e1, e2, e3⟩ := rg_no hB
    rw [hB, e1, e2, e3]
    clear hB e1 e2 e3
    go_enter Tryz.func10, Tryz.ntmps10
    go_wp2_with (go_at_call 22; refine (within_any _ _ _ _).mono ?_; rintro e w' ⟨rfl, rfl⟩)
    exact bodyPost_ret (v := .tuple #[.agg #[.int .i64 0, .int .i64 0, .slice none 0 0], .bool false]) (by simp [results, Tryz.results10, go_sem]) rfl ⟨none, 0, rfl, World.ownsRow_nil _ _ _ _, by (repeat' (first | (with_reducible exact Below.refl _ _) | (with_reducible refine bl_alloc ?_ _) | (with_reducible refine bl_drewN ?_ _) | (with_reducible refine bl_drew ?_) | (with_reducible assumption) | (with_reducible refine bl_to ?_ (by assumption)) | (with_reducible refine Below.trans ?_ (by assumption)) | (with_reducible refine Below.trans ?_ (Below.mono (by assumption) ?_)) | (with_reducible refine bl_set ?_ ?_ _) | (simp; done) | (simp; omega) | omega))⟩
  obtain ⟨n3, n4⟩ := inB_iff.1 hj
  have hZ : okG S L L.length = false ∨ cylB S L.length (sP L L.length S) = false → rgB L = false ∧ rgS L = 0 ∧ rgT L = 0 ∧ rgL L = [] := fun h => by
    have hB : rgB L = false := by rcases h with h | h <;> simp [rgB, hs0, hS, h]
    exact ⟨hB, rg_no hB⟩
  have hY : okG S L L.length = true → cylB S L.length (sP L L.length S) = true → rgB L = true ∧ rgS L = S ∧ rgT L = L.length ∧ rgL L = sP L L.length S := fun h h2 => by
    have hB : rgB L = true := by simp [rgB, hs0, hS, h, h2, hi, hj]
    simp [rgS, rgT, rgL, hB, hs0, hS]
  generalize rgB L = bq at *
  generalize rgS L = nq at *
  generalize rgT L = rq at *
  generalize rgL L = lq at *
  have HZ := Lib.hid hZ
  have HY := Lib.hid hY
  clear hZ hY hs0
  have S0 := CylinderSt.mk0 (w1 := w.alloc (Obj.cells #[.int .i64 0, .int .i64 0, .slice none 0 0] 31)) (D := w.heap.size + 1) (n := (S : Int)) (r := (L.length : Int)) (by simp)
  have q0 : ((w.alloc (Obj.cells #[.int .i64 0, .int .i64 0, .slice none 0 0] 31)).alloc (Obj.cells #[.int .i64 (S : Int), .int .i64 (L.length : Int), .slice none 0 0] 31)).cell? ⟨w.heap.size, 0, none⟩ = some (.int .i64 0) := by simp [go_sem]
  have q1 : ((w.alloc (Obj.cells #[.int .i64 0, .int .i64 0, .slice none 0 0] 31)).alloc (Obj.cells #[.int .i64 (S : Int), .int .i64 (L.length : Int), .slice none 0 0] 31)).cell? ⟨w.heap.size, 1, none⟩ = some (.int .i64 0) := by simp [go_sem]
  have q2 : ((w.alloc (Obj.cells #[.int .i64 0, .int .i64 0, .slice none 0 0] 31)).alloc (Obj.cells #[.int .i64 (S : Int), .int .i64 (L.length : Int), .slice none 0 0] 31)).cell? ⟨w.heap.size, 2, none⟩ = some (.slice none 0 0) := by simp [go_sem]
  have p0 : ((w.alloc (Obj.cells #[.int .i64 0, .int .i64 0, .slice none 0 0] 31)).alloc (Obj.cells #[.int .i64 (S : Int), .int .i64 (L.length : Int), .slice none 0 0] 31)).frozen? ⟨w.heap.size, 0, none⟩ = false := by simp [go_sem]
  have p1 : ((w.alloc (Obj.cells #[.int .i64 0, .int .i64 0, .slice none 0 0] 31)).alloc (Obj.cells #[.int .i64 (S : Int), .int .i64 (L.length : Int), .slice none 0 0] 31)).frozen? ⟨w.heap.size, 1, none⟩ = false := by simp [go_sem]
  have p2 : ((w.alloc (Obj.cells #[.int .i64 0, .int .i64 0, .slice none 0 0] 31)).alloc (Obj.cells #[.int .i64 (S : Int), .int .i64 (L.length : Int), .slice none 0 0] 31)).frozen? ⟨w.heap.size, 2, none⟩ = false := by simp [go_sem]
  have bel0 : Below w.heap.size w ((w.alloc (Obj.cells #[.int .i64 0, .int .i64 0, .slice none 0 0] 31)).alloc (Obj.cells #[.int .i64 (S : Int), .int .i64 (L.length : Int), .slice none 0 0] 31)) := by (repeat' (first | (with_reducible exact Below.refl _ _) | (with_reducible refine bl_alloc ?_ _) | (with_reducible refine bl_drewN ?_ _) | (with_reducible refine bl_drew ?_) | (with_reducible assumption) | (with_reducible refine bl_to ?_ (by assumption)) | (with_reducible refine Below.trans ?_ (by assumption)) | (with_reducible refine Below.trans ?_ (Below.mono (by assumption) ?_)) | (with_reducible refine bl_set ?_ ?_ _) | (simp; done) | (simp; omega) | omega))
  have XQ := Lib.hid (And.intro q0 (And.intro q1 (And.intro q2 (And.intro p0 (And.intro p1 p2)))))
  clear q0 q1 q2 p0 p1 p2
  go_enter Tryz.func10, Tryz.ntmps10
  go_wp2_with (go_at_call 22; refine (within_any _ _ _ _).mono ?_; rintro e w' ⟨rfl, rfl⟩)
  generalize ((w.alloc (Obj.cells #[.int .i64 0, .int .i64 0, .slice none 0 0] 31)).alloc (Obj.cells #[.int .i64 (S : Int), .int .i64 (L.length : Int), .slice none 0 0] 31)) = w0 at *
  have hS96 : S ≤ 96 := by omega
  have rdL := h1.bl bel0
  have RDL := Lib.hid rdL
  clear rdL h1 e0 e0' hj hS hc
  have hwD : w.heap.size < w.heap.size + 1 := by omega
  generalize w.heap.size + 1 = D at *
  go_loopw [30] (fun i wr => ∃ (k : Nat) (v : Value), k ≤ L.length ∧ i = .int .i64 k ∧ (∀ t, t < k → (gS L t).size = S ∧ ∀ a, a < S → okB (byS (gS L t) a) = true) ∧ CylinderSt w0 D wr S L.length v (iP S L k)) (fun i _ => L.length - (intOf i).toNat)
  case atStart => exact ⟨0, _, Nat.zero_le _, rfl, fun t h => by omega, S0⟩
  case round =>
    clear S0
    obtain ⟨k, v, hk, rfl, hok, h⟩ := hrel
    obtain ⟨wo, rfl⟩ : ∃ wo : World, wo = wr := ⟨_, rfl⟩
    have HOK := Lib.hid hok
    clear hok
    have hdl := h.dl
    have d0 := h.d0
    obtain ⟨Q0, Q1, Q2, P0, P1, P2⟩ := XQ.out
    have Z0 := (h.bel.cell (p := ⟨w.heap.size, 0, none⟩) (by simp <;> omega)).trans Q0
    have Z1 := (h.bel.cell (p := ⟨w.heap.size, 1, none⟩) (by simp <;> omega)).trans Q1
    have Z2 := (h.bel.cell (p := ⟨w.heap.size, 2, none⟩) (by simp <;> omega)).trans Q2
    have F0 := (h.bel.frozen (p := ⟨w.heap.size, 0, none⟩) (by simp <;> omega)).trans P0
    have F1 := (h.bel.frozen (p := ⟨w.heap.size, 1, none⟩) (by simp <;> omega)).trans P1
    have F2 := (h.bel.frozen (p := ⟨w.heap.size, 2, none⟩) (by simp <;> omega)).trans P2
    have bl : Below w.heap.size w wo := bel0.trans (h.bel.mono (by omega))
    clear Q0 Q1 Q2 P0 P1 P2
    by_cases hlt : k < L.length
    · have hlt' : (k : Int) < (L.length : Int) := by omega
      obtain ⟨b', o', hbo, _, e1⟩ := RdS.at_ RDL.out hlt
      obtain ⟨rfl, rfl⟩ : b = b' ∧ o = o' := by simpa using hbo
      clear hbo
      have e2 := (h.bel.cell (p := ⟨b, o + k, none⟩) (by simp <;> omega)).trans e1
      clear e1
      obtain ⟨s, hs⟩ : ∃ s, gS L k = s := ⟨_, rfl⟩
      rw [hs] at e2
      have HS := Lib.hid hs
      clear hs
      by_cases hsz : s.size = S
      rotate_left
      · have hsz' : ¬ (s.size : Int) = (S : Int) := by omega
        obtain ⟨z1, z2, z3, z4⟩ := HZ.out (.inl (okG_no hlt (by rw [HS.out]; exact hsz)))
        go_wp2
        exact bodyPost_ret (v := .tuple #[.agg #[.int .i64 0, .int .i64 0, .slice none 0 0], .bool false]) (by simp [results, Tryz.results10, go_sem, Z0, Z1, Z2]) rfl ⟨none, 0, by rw [z1, z2, z3, z4]; rfl, by rw [z4]; exact World.ownsRow_nil _ _ _ _, bl_set (bl_set (bl_set bl (by simp <;> omega) _) (by simp <;> omega) _) (by simp <;> omega) _⟩
      subst hsz
      have hcl := iP_len s.size L k
      have hcm : k * s.size ≤ 100 * 96 := Nat.mul_le_mul (by omega) (by omega)
      have H0 : CylinderSt w0 D wo s.size L.length v (iP s.size L k ++ rowP s k 0) := by simpa [rowP] using h
      clear Z0 Z1 Z2 F0 F1 F2 bl
      go_wp2
      go_loopw [7] (fun j wr => ∃ (a : Nat) (v' : Value), a ≤ s.size ∧ j = .int .i64 a ∧ (∀ a', a' < a → okB (byS s a') = true) ∧ CylinderSt w0 D wr s.size L.length v' (iP s.size L k ++ rowP s k a)) (fun j _ => s.size - (intOf j).toNat)
      case atStart => exact ⟨0, v, Nat.zero_le _, rfl, fun t h => by omega, H0⟩
      case round =>
        clear H0 h d0 hdl e2
        obtain ⟨a, v', ha, rfl, hok2, h'⟩ := hrel
        have HOK2 := Lib.hid hok2
        clear hok2
        have hrl := rowP_len s k a
        by_cases hla : a < s.size
        · have hla' : (a : Int) < (s.size : Int) := by omega
          have hby := byS_eq hla
          by_cases hx : (s[a].toNat : Int) = 120
          · have hxb : ((s[a].toNat : Int) == 120) = true := by simpa using hx
            have hxd : decide ((s[a].toNat : Int) = 120) = true := by simpa using hx
            have HB := Lib.hid (hby.trans hx)
            clear hby
            have dv := h'.dv
            have fv := h'.fv
            have hdl := h'.dl
            have hLl : (iP s.size L k ++ rowP s k a).length ≤ 4194304 := by rw [List.length_append]; omega
            have hst : CylinderSt w0 D (wr.alloc (Obj.cells #[.int .i64 (k : Int), .int .i64 (a : Int)] 44)) s.size L.length v' (iP s.size L k ++ rowP s k a) := h'.step (bl_alloc (Below.refl _ _) _)
            have HL := Lib.hid hLl
            clear hLl
            go_wp2_with (at_builtin; go_loud (refine wpList_app_P _ rfl _ _ rfl (D + 1) _ _ rfl hst.ow wr.heap.size (k : Int) (a : Int) rfl ?_ ?_ HL.out (by simp <;> omega) ?_); rotate_left 2; go_loud (intro v2 w2' ow2 bb gr at2); go_loud (obtain ⟨A2, m2, k2, rfl⟩ := own_form3 ow2); go_loud (have cD := (bb.cell (p := ⟨D, 2, none⟩) (by simp)).trans hst.dv); go_loud (have fD := (bb.frozen (p := ⟨D, 2, none⟩) (by simp)).trans hst.fv))
            · go_roundw
              case rel => exact ⟨a + 1, _, by omega, by go_num, fun a' ha' => by (by_cases e : a' = a); (· rw [e, HB.out]; exact okB_120); (· exact HOK2.out a' (by omega)), by rw [rowP_yes HB.out, ← List.append_assoc]; exact hst.app (_, _) bb ow2⟩
              case measure => simp [intOf]; omega
            all_goals (simp; done)
          · by_cases hd : (s[a].toNat : Int) = 46
            · have hxb : ((s[a].toNat : Int) == 120) = false := by simpa using hx
              have hxd : decide ((s[a].toNat : Int) = 120) = false := by simpa using hx
              have hdb : ((s[a].toNat : Int) == 46) = true := by simpa using hd
              have hdd : decide ((s[a].toNat : Int) = 46) = true := by simpa using hd
              have HB := Lib.hid (hby.trans hd)
              clear hby
              go_wp2
              go_roundw
              case rel => exact ⟨a + 1, v', by omega, by go_num, fun a' ha' => by (by_cases e : a' = a); (· rw [e, HB.out]; exact okB_46); (· exact HOK2.out a' (by omega)), by rw [rowP_no (by rw [HB.out]; decide)]; exact h'⟩
              case measure => simp [intOf]; omega
            · have hxb : ((s[a].toNat : Int) == 120) = false := by simpa using hx
              have hxd : decide ((s[a].toNat : Int) = 120) = false := by simpa using hx
              have hdb : ((s[a].toNat : Int) == 46) = false := by simpa using hd
              have hdd : decide ((s[a].toNat : Int) = 46) = false := by simpa using hd
              obtain ⟨z1, z2, z3, z4⟩ := HZ.out (.inl (okG_no2 hlt hla (by rw [HS.out, hby]; exact okB_no hx hd)))
              obtain ⟨Q0, Q1, Q2, P0, P1, P2⟩ := XQ.out
              have hdl := h'.dl
              have Z0 := (h'.bel.cell (p := ⟨w.heap.size, 0, none⟩) (by simp <;> omega)).trans Q0
              have Z1 := (h'.bel.cell (p := ⟨w.heap.size, 1, none⟩) (by simp <;> omega)).trans Q1
              have Z2 := (h'.bel.cell (p := ⟨w.heap.size, 2, none⟩) (by simp <;> omega)).trans Q2
              have F0 := (h'.bel.frozen (p := ⟨w.heap.size, 0, none⟩) (by simp <;> omega)).trans P0
              have F1 := (h'.bel.frozen (p := ⟨w.heap.size, 1, none⟩) (by simp <;> omega)).trans P1
              have F2 := (h'.bel.frozen (p := ⟨w.heap.size, 2, none⟩) (by simp <;> omega)).trans P2
              have bl : Below w.heap.size w wr := bel0.trans (h'.bel.mono (by omega))
              clear Q0 Q1 Q2 P0 P1 P2 hby
              go_wp2
              exact bodyPost_ret (v := .tuple #[.agg #[.int .i64 0, .int .i64 0, .slice none 0 0], .bool false]) (by simp [results, Tryz.results10, go_sem, Z0, Z1, Z2]) rfl ⟨none, 0, by rw [z1, z2, z3, z4]; rfl, by rw [z4]; exact World.ownsRow_nil _ _ _ _, bl_set (bl_set (bl_set bl (by simp <;> omega) _) (by simp <;> omega) _) (by simp <;> omega) _⟩
        · have hla' : ¬ (a : Int) < (s.size : Int) := by omega
          obtain rfl : a = s.size := by omega
          go_wp2
          go_roundw
          case rel => exact ⟨k + 1, v', by omega, by go_num, fun t ht => by (by_cases e : t = k); (· rw [e, HS.out]; exact ⟨rfl, HOK2.out⟩); (· exact HOK.out t (by omega)), by rw [iP, HS.out]; exact h'⟩
          case measure => simp [intOf]; omega
    · have hlt' : ¬ (k : Int) < (L.length : Int) := by omega
      obtain rfl : k = L.length := by omega
      have hcl := iP_len S L L.length
      have hcm : L.length * S ≤ 100 * 96 := Nat.mul_le_mul (by omega) (by omega)
      have hnd := iP_nd S L L.length
      have hg : okG S L L.length = true := okG_iff.2 HOK.out
      have hso := fun W v h => sortedP_any v (iP S L L.length) W h (by omega) hnd
      rw [srt_iP] at hso
      have hsl : (sP L L.length S).length ≤ 1048576 := by
        have := sP_len L L.length S
        have e : S * L.length = L.length * S := Nat.mul_comm _ _
        omega
      have hck := fun W v h => cylI_ok (S : Int) (L.length : Int) v (sP L L.length S) W h hsl
      have dv := h.dv
      have fv := h.fv
      have rdI : RdP wo v (iP S L L.length) := Rd.of_own h.ow
      have d1 := h.d1
      obtain ⟨M, hM⟩ : ∃ M, sP L L.length S = M := ⟨_, rfl⟩
      rw [hM] at hso hck hsl
      have HM := Lib.hid hM
      have HSO := Lib.hid hso
      have HCK := Lib.hid hck
      have HG := Lib.hid hg
      clear hM hso hck hg hnd hcl hcm
      obtain ⟨A0, c0, rfl⟩ := own_form h.ow
      have H := Lib.hid h
      clear h
      go_wp2_with fail
      refine (HSO.out _ _ rdI).mono ?_
      rintro e w1 ⟨A3, c3, rfl, ow3, b3⟩
      have H1 := H.out.put b3 ow3
      have cD := (b3.cell (p := ⟨D, 2, none⟩) hdl).trans dv
      have fD := (b3.frozen (p := ⟨D, 2, none⟩) hdl).trans fv
      have T0 := H1.d0
      have T1 := H1.d1
      have T2 := H1.dv
      have rdM : RdP (w1.setCell ⟨D, 2, none⟩ (.slice A3 M.length c3)) (.slice A3 M.length c3) M := Rd.of_own H1.ow
      cases hB : cylB (S : Int) (L.length : Int) M
      all_goals
        have hck := HCK.out
        rw [hB] at hck
        have HCK2 := Lib.hid hck
        clear hck
      · obtain ⟨z1, z2, z3, z4⟩ := HZ.out (.inr (by rw [HM.out]; exact hB))
        clear hB
        go_wp2_with fail
        refine (HCK2.out _ _ rdM).mono ?_
        rintro e w2 ⟨rfl, b2⟩
        have H2 := H1.step b2
        obtain ⟨Q0, Q1, Q2, P0, P1, P2⟩ := XQ.out
        clear Z0 Z1 Z2 F0 F1 F2 bl T0 T1 T2
        have Z0 := (H2.bel.cell (p := ⟨w.heap.size, 0, none⟩) (by simp <;> omega)).trans Q0
        have Z1 := (H2.bel.cell (p := ⟨w.heap.size, 1, none⟩) (by simp <;> omega)).trans Q1
        have Z2 := (H2.bel.cell (p := ⟨w.heap.size, 2, none⟩) (by simp <;> omega)).trans Q2
        have F0 := (H2.bel.frozen (p := ⟨w.heap.size, 0, none⟩) (by simp <;> omega)).trans P0
        have F1 := (H2.bel.frozen (p := ⟨w.heap.size, 1, none⟩) (by simp <;> omega)).trans P1
        have F2 := (H2.bel.frozen (p := ⟨w.heap.size, 2, none⟩) (by simp <;> omega)).trans P2
        have bl : Below w.heap.size w w2 := bel0.trans (H2.bel.mono (by omega))
        clear Q0 Q1 Q2 P0 P1 P2
        go_wp2
        exact bodyPost_ret (v := .tuple #[.agg #[.int .i64 0, .int .i64 0, .slice none 0 0], .bool false]) (by simp [results, Tryz.results10, go_sem, Z0, Z1, Z2]) rfl ⟨none, 0, by rw [z1, z2, z3, z4]; rfl, by rw [z4]; exact World.ownsRow_nil _ _ _ _, bl_set (bl_set (bl_set bl (by simp <;> omega) _) (by simp <;> omega) _) (by simp <;> omega) _⟩
      · obtain ⟨z1, z2, z3, z4⟩ := HY.out HG.out (by rw [HM.out]; exact hB)
        rw [HM.out] at z4
        clear hB
        go_wp2_with fail
        refine (HCK2.out _ _ rdM).mono ?_
        rintro e w2 ⟨rfl, b2⟩
        have H2 := H1.step b2
        obtain ⟨Q0, Q1, Q2, P0, P1, P2⟩ := XQ.out
        clear Z0 Z1 Z2 F0 F1 F2 bl T0 T1 T2
        have T0 := H2.d0
        have T1 := H2.d1
        have T2 := H2.dv
        have ow := H2.ow
        have Z0 := (H2.bel.cell (p := ⟨w.heap.size, 0, none⟩) (by simp <;> omega)).trans Q0
        have Z1 := (H2.bel.cell (p := ⟨w.heap.size, 1, none⟩) (by simp <;> omega)).trans Q1
        have Z2 := (H2.bel.cell (p := ⟨w.heap.size, 2, none⟩) (by simp <;> omega)).trans Q2
        have F0 := (H2.bel.frozen (p := ⟨w.heap.size, 0, none⟩) (by simp <;> omega)).trans P0
        have F1 := (H2.bel.frozen (p := ⟨w.heap.size, 1, none⟩) (by simp <;> omega)).trans P1
        have F2 := (H2.bel.frozen (p := ⟨w.heap.size, 2, none⟩) (by simp <;> omega)).trans P2
        have bl : Below w.heap.size w w2 := bel0.trans (H2.bel.mono (by omega))
        clear Q0 Q1 Q2 P0 P1 P2
        go_wp2
        exact bodyPost_ret (v := .tuple #[.agg #[.int .i64 (S : Int), .int .i64 (L.length : Int), .slice A3 M.length c3], .bool true]) (by simp [results, Tryz.results10, go_sem, Z0, Z1, Z2, T0, T1, T2]) rfl ⟨A3, c3, by rw [z1, z2, z3, z4], by rw [z4]; exact own_lo (ownsRow_setCell_below (ownsRow_setCell_below (ownsRow_setCell_below ow (by simp <;> omega) _) (by simp <;> omega) _) (by simp <;> omega) _) (by omega), bl_set (bl_set (bl_set bl (by simp <;> omega) _) (by simp <;> omega) _) (by simp <;> omega) _⟩
end Go.Proofs.YthgllpocljeegaaGreatDoor
