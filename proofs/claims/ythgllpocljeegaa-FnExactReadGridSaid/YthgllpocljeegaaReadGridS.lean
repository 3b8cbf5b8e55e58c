/- ReadGrid of the reference; lengths up to 2^20. -/
import Derived.Test.YthgllpocljeegaaReadGridI
import Derived.BigQuiet
namespace Go.Proofs.Ythgllpocljeegaa
open Go.RowKit

set_option maxHeartbeats 6400000 in
set_option maxRecDepth 100000 in
theorem rgS_any (v : Value) (L : List ByteArray) (w : World) (h1 : RdS w v L) (hl : L.length ≤ 1048576) :
    Calls Try.prog 15 #[v] w (NewCylB (rgS L) (rgT L) (rgL L) (rgB L) w) := by
  obtain ⟨A1, c1, rfl, hc, hm⟩ := Rd.form h1
  unfold maxLen at hm
  cases hi : inB L.length 1 100
  · have hB : rgB L = false := by simp [rgB, hi]
    obtain ⟨e1, e2, e3⟩ := rg_no hB
    rw [hB, e1, e2, e3]
    clear hB e1 e2 e3
    go_enter Try.func15, Try.ntmps15
    go_wp2_with (go_at_call 27; refine (l01In_any _ _ _ _).mono ?_; rintro e w' ⟨rfl, rfl⟩)
    exact bodyPost_ret (v := .tuple #[.agg #[.int .i64 0, .int .i64 0, .slice none 0 0], .bool false]) (by simp [results, Try.results15, go_sem]) rfl ⟨none, 0, rfl, World.ownsRow_nil _ _ _ _, by (repeat' (first | (with_reducible exact Below.refl _ _) | (with_reducible refine bl_alloc ?_ _) | (with_reducible refine bl_drewN ?_ _) | (with_reducible refine bl_drew ?_) | (with_reducible assumption) | (with_reducible refine bl_to ?_ (by assumption)) | (with_reducible refine Below.trans ?_ (by assumption)) | (with_reducible refine Below.trans ?_ (Below.mono (by assumption) ?_)) | (with_reducible refine bl_set ?_ ?_ _) | (simp; done) | (simp; omega) | omega))⟩
  obtain ⟨n1, n2⟩ := inB_iff.1 hi
  have hl0 : 0 < L.length := by omega
  have hl0' : (0 : Int) < (L.length : Int) := by omega
  obtain ⟨b, o, rfl, hb, e0⟩ := RdS.at_ h1 hl0
  rw [Nat.add_zero] at e0
  obtain ⟨s0, hs0⟩ : ∃ s0, gS L 0 = s0 := ⟨_, rfl⟩
  rw [hs0] at e0
  have e0' := (World.cell?_alloc_lt w (Obj.cells #[.int .i64 0, .int .i64 0, .slice none 0 0] 30) ⟨b, o, none⟩ hb).trans e0
  obtain ⟨S, hS⟩ : ∃ S, s0.size = S := ⟨_, rfl⟩
  cases hj : inB S 4 96
  · have hB : rgB L = false := by simp [rgB, hs0, hS, hj]
    obtain ⟨e1, e2, e3⟩ := rg_no hB
    rw [hB, e1, e2, e3]
    clear hB e1 e2 e3
    go_enter Try.func15, Try.ntmps15
    go_wp2_with (go_at_call 27; refine (l01In_any _ _ _ _).mono ?_; rintro e w' ⟨rfl, rfl⟩)
    exact bodyPost_ret (v := .tuple #[.agg #[.int .i64 0, .int .i64 0, .slice none 0 0], .bool false]) (by simp [results, Try.results15, go_sem]) rfl ⟨none, 0, rfl, World.ownsRow_nil _ _ _ _, by (repeat' (first | (with_reducible exact Below.refl _ _) | (with_reducible refine bl_alloc ?_ _) | (with_reducible refine bl_drewN ?_ _) | (with_reducible refine bl_drew ?_) | (with_reducible assumption) | (with_reducible refine bl_to ?_ (by assumption)) | (with_reducible refine Below.trans ?_ (by assumption)) | (with_reducible refine Below.trans ?_ (Below.mono (by assumption) ?_)) | (with_reducible refine bl_set ?_ ?_ _) | (simp; done) | (simp; omega) | omega))⟩
  obtain ⟨n3, n4⟩ := inB_iff.1 hj
  have hZ : okG S L L.length = false ∨ cylB S L.length (sP L L.length S) = false → rgB L = false ∧ rgS L = 0 ∧ rgT L = 0 ∧ rgL L = [] := fun h => by
    have hB : rgB L = false := by rcases h with h | h <;> simp [rgB, hs0, hS, h]
    exact ⟨hB, rg_no hB⟩
  have hY : okG S L L.length = true → cylB S L.length (sP L L.length S) = true → rgB L = true ∧ rgS L = S ∧ rgT L = L.length ∧ rgL L = sP L L.length S := fun h h2 => by
    have hB : rgB L = true := by simp [rgB, hs0, hS, h, h2, hi, hj]
    simp [rgS, rgT, rgL, hB, hs0, hS]
  generalize rgB L = bq at *
  generalize rgS L = nq at *
  generalize rgT L = rq at *
  generalize rgL L = lq at *
  have HZ := Lib.hid hZ
  have HY := Lib.hid hY
  clear hZ hY hs0
  have S0 := CylinderSt.mk0 (w1 := w.alloc (Obj.cells #[.int .i64 0, .int .i64 0, .slice none 0 0] 30)) (D := w.heap.size + 1) (n := (S : Int)) (r := (L.length : Int)) (by simp)
  have q0 : ((w.alloc (Obj.cells #[.int .i64 0, .int .i64 0, .slice none 0 0] 30)).alloc (Obj.cells #[.int .i64 (S : Int), .int .i64 (L.length : Int), .slice none 0 0] 30)).cell? ⟨w.heap.size, 0, none⟩ = some (.int .i64 0) := by simp [go_sem]
  have q1 : ((w.alloc (Obj.cells #[.int .i64 0, .int .i64 0, .slice none 0 0] 30)).alloc (Obj.cells #[.int .i64 (S : Int), .int .i64 (L.length : Int), .slice none 0 0] 30)).cell? ⟨w.heap.size, 1, none⟩ = some (.int .i64 0) := by simp [go_sem]
  have q2 : ((w.alloc (Obj.cells #[.int .i64 0, .int .i64 0, .slice none 0 0] 30)).alloc (Obj.cells #[.int .i64 (S : Int), .int .i64 (L.length : Int), .slice none 0 0] 30)).cell? ⟨w.heap.size, 2, none⟩ = some (.slice none 0 0) := by simp [go_sem]
  have p0 : ((w.alloc (Obj.cells #[.int .i64 0, .int .i64 0, .slice none 0 0] 30)).alloc (Obj.cells #[.int .i64 (S : Int), .int .i64 (L.length : Int), .slice none 0 0] 30)).frozen? ⟨w.heap.size, 0, none⟩ = false := by simp [go_sem]
  have p1 : ((w.alloc (Obj.cells #[.int .i64 0, .int .i64 0, .slice none 0 0] 30)).alloc (Obj.cells #[.int .i64 (S : Int), .int .i64 (L.length : Int), .slice none 0 0] 30)).frozen? ⟨w.heap.size, 1, none⟩ = false := by simp [go_sem]
  have p2 : ((w.alloc (Obj.cells #[.int .i64 0, .int .i64 0, .slice none 0 0] 30)).alloc (Obj.cells #[.int .i64 (S : Int), .int .i64 (L.length : Int), .slice none 0 0] 30)).frozen? ⟨w.heap.size, 2, none⟩ = false := by simp [go_sem]
  have bel0 : Below w.heap.size w ((w.alloc (Obj.cells #[.int .i64 0, .int .i64 0, .slice none 0 0] 30)).alloc (Obj.cells #[.int .i64 (S : Int), .int .i64 (L.length : Int), .slice none 0 0] 30)) := by (repeat' (first | (with_reducible exact Below.refl _ _) | (with_reducible refine bl_alloc ?_ _) | (with_reducible refine bl_drewN ?_ _) | (with_reducible refine bl_drew ?_) | (with_reducible assumption) | (with_reducible refine bl_to ?_ (by assumption)) | (with_reducible refine Below.trans ?_ (by assumption)) | (with_reducible refine Below.trans ?_ (Below.mono (by assumption) ?_)) | (with_reducible refine bl_set ?_ ?_ _) | (simp; done) | (simp; omega) | omega))
  have XQ := Lib.hid (And.intro q0 (And.intro q1 (And.intro q2 (And.intro p0 (And.intro p1 p2)))))
  clear q0 q1 q2 p0 p1 p2
  go_enter Try.func15, Try.ntmps15
  go_wp2_with (go_at_call 27; refine (l01In_any _ _ _ _).mono ?_; rintro e w' ⟨rfl, rfl⟩)
  generalize ((w.alloc (Obj.cells #[.int .i64 0, .int .i64 0, .slice none 0 0] 30)).alloc (Obj.cells #[.int .i64 (S : Int), .int .i64 (L.length : Int), .slice none 0 0] 30)) = w0 at *
  have hS96 : S ≤ 96 := by omega
  have rdL := h1.bl bel0
  have RDL := Lib.hid rdL
  clear rdL h1 e0 e0' hj hS hc
  have hwD : w.heap.size < w.heap.size + 1 := by omega
  generalize w.heap.size + 1 = D at *
  have hS4 : 4 ≤ S := by omega
  go_loopw [5] (fun i wr => ∃ (a : Nat) (v : Value), a ≤ S ∧ i = .int .i64 a ∧ (∀ t, t < L.length → ∀ a', a' < a → (gS L t).size = S ∧ okB (byS (gS L t) a') = true) ∧ CylinderSt w0 D wr S L.length v (sP L L.length a)) (fun i _ => S - (intOf i).toNat)
  case atStart => exact ⟨0, _, Nat.zero_le _, rfl, fun t _ a h => by omega, S0⟩
  case round =>
    clear S0
    obtain ⟨a, v, ha, rfl, hok, h⟩ := hrel
    obtain ⟨wo, rfl⟩ : ∃ wo : World, wo = wr := ⟨_, rfl⟩
    have HOK := Lib.hid hok
    clear hok
    have hdl := h.dl
    have d0 := h.d0
    by_cases hla : a < S
    · have hla' : (a : Int) < (S : Int) := by omega
      have hcl := sP_len L L.length a
      have hcm : a * L.length ≤ 96 * 100 := Nat.mul_le_mul (by omega) (by omega)
      have H0 : CylinderSt w0 D wo S L.length v (sP L L.length a ++ colP L a 0) := by simpa [colP] using h
      go_wp2
      go_loopw [6] (fun j wr => ∃ (k : Nat) (v' : Value), k ≤ L.length ∧ j = .int .i64 k ∧ (∀ t, t < k → (gS L t).size = S ∧ okB (byS (gS L t) a) = true) ∧ CylinderSt w0 D wr S L.length v' (sP L L.length a ++ colP L a k)) (fun j _ => L.length - (intOf j).toNat)
      case atStart => exact ⟨0, v, Nat.zero_le _, rfl, fun t h => by omega, H0⟩
      case round =>
        clear H0 h d0 hdl
        obtain ⟨k, v', hk, rfl, hok2, h'⟩ := hrel
        have HOK2 := Lib.hid hok2
        clear hok2
        have hrl := colP_len L a k
        by_cases hlt : k < L.length
        · have hlt' : (k : Int) < (L.length : Int) := by omega
          obtain ⟨b', o', hbo, _, e1⟩ := RdS.at_ RDL.out hlt
          obtain ⟨rfl, rfl⟩ : b = b' ∧ o = o' := by simpa using hbo
          clear hbo
          have e2 := (h'.bel.cell (p := ⟨b, o + k, none⟩) (by simp <;> omega)).trans e1
          clear e1
          have d0 := h'.d0
          have hdl := h'.dl
          obtain ⟨s, hs⟩ : ∃ s, gS L k = s := ⟨_, rfl⟩
          rw [hs] at e2
          have HS := Lib.hid hs
          clear hs
          by_cases hsz : s.size = S
          rotate_left
          · have hsz' : ¬ (s.size : Int) = (S : Int) := by omega
            have hsn : ((s.size : Int) != (S : Int)) = true := bne_iff_ne.2 hsz'
            have hse : decide (s.size = S) = false := by simpa using hsz
            obtain ⟨z1, z2, z3, z4⟩ := HZ.out (.inl (okG_no hlt (by rw [HS.out]; exact hsz)))
            obtain ⟨Q0, Q1, Q2, P0, P1, P2⟩ := XQ.out
            have Z0 := (h'.bel.cell (p := ⟨w.heap.size, 0, none⟩) (by simp <;> omega)).trans Q0
            have Z1 := (h'.bel.cell (p := ⟨w.heap.size, 1, none⟩) (by simp <;> omega)).trans Q1
            have Z2 := (h'.bel.cell (p := ⟨w.heap.size, 2, none⟩) (by simp <;> omega)).trans Q2
            have F0 := (h'.bel.frozen (p := ⟨w.heap.size, 0, none⟩) (by simp <;> omega)).trans P0
            have F1 := (h'.bel.frozen (p := ⟨w.heap.size, 1, none⟩) (by simp <;> omega)).trans P1
            have F2 := (h'.bel.frozen (p := ⟨w.heap.size, 2, none⟩) (by simp <;> omega)).trans P2
            have bl : Below w.heap.size w wr := bel0.trans (h'.bel.mono (by omega))
            clear Q0 Q1 Q2 P0 P1 P2
            go_wp2
            go_big_quiet (fail)
            go_wp2
            exact bodyPost_ret (v := .tuple #[.agg #[.int .i64 0, .int .i64 0, .slice none 0 0], .bool false]) (by simp [results, Try.results15, go_sem, Z0, Z1, Z2]) rfl ⟨none, 0, by rw [z1, z2, z3, z4]; rfl, by rw [z4]; exact World.ownsRow_nil _ _ _ _, bl_set (bl_set (bl_set (bl_drewN bl _) (by simp <;> omega) _) (by simp <;> omega) _) (by simp <;> omega) _⟩
          subst hsz
          have hby := byS_eq hla
          by_cases hx : (s[a].toNat : Int) = 120
          · have hxb : ((s[a].toNat : Int) == 120) = true := by simpa using hx
            have hxd : decide ((s[a].toNat : Int) = 120) = true := by simpa using hx
            have HB := Lib.hid (hby.trans hx)
            clear hby
            have dv := h'.dv
            have fv := h'.fv
            have hLl : (sP L L.length a ++ colP L a k).length ≤ 4194304 := by rw [List.length_append]; omega
            have hst : ∀ q, CylinderSt w0 D ((wr.drewN q).alloc (Obj.cells #[.int .i64 (k : Int), .int .i64 (a : Int)] 45)) s.size L.length v' (sP L L.length a ++ colP L a k) := fun q => h'.step (bl_alloc (bl_drewN (Below.refl _ _) q) _)
            have HL := Lib.hid hLl
            clear hLl
            go_wp2
            go_big_quiet (fail)
            go_wp2_with (at_builtin; go_loud (refine wpList_app_P _ rfl _ _ rfl (D + 1) _ _ rfl (hst _).ow wr.heap.size (k : Int) (a : Int) rfl ?_ ?_ HL.out (by simp <;> omega) ?_); rotate_left 2; intro v2 w2' ow2 bb gr at2; obtain ⟨A2, m2, k2, rfl⟩ := own_form3 ow2; have cD := (bb.cell (p := ⟨D, 2, none⟩) (by simp)).trans (hst _).dv; have fD := (bb.frozen (p := ⟨D, 2, none⟩) (by simp)).trans (hst _).fv)
            · go_roundw
              case rel => exact ⟨k + 1, _, by omega, by go_num, fun t ht => by (by_cases e : t = k); (· rw [e, HS.out]; exact ⟨rfl, by rw [HB.out]; exact okB_120⟩); (· exact HOK2.out t (by omega)), by rw [colP_yes (by rw [HS.out]; exact HB.out), ← List.append_assoc]; exact (hst _).app (_, _) bb ow2⟩
              case measure => simp [intOf]; omega
            · exact (World.cell?_alloc_at _ _ wr.heap.size 0 rfl).trans rfl
            · exact (World.cell?_alloc_at _ _ wr.heap.size 1 rfl).trans rfl
          · by_cases hd : (s[a].toNat : Int) = 46
            · have hxb : ((s[a].toNat : Int) == 120) = false := by simpa using hx
              have hxd : decide ((s[a].toNat : Int) = 120) = false := by simpa using hx
              have hdb : ((s[a].toNat : Int) == 46) = true := by simpa using hd
              have hxn : ((s[a].toNat : Int) != 120) = true := bne_iff_ne.2 hx
              have hdd : decide ((s[a].toNat : Int) = 46) = true := by simpa using hd
              have HB := Lib.hid (hby.trans hd)
              clear hby
              go_wp2
              go_big_quiet (fail)
              go_wp2
              go_roundw
              case rel => exact ⟨k + 1, v', by omega, by go_num, fun t ht => by (by_cases e : t = k); (· rw [e, HS.out]; exact ⟨rfl, by rw [HB.out]; exact okB_46⟩); (· exact HOK2.out t (by omega)), by rw [colP_no (by rw [HS.out, HB.out]; decide)]; exact h'.step (bl_drewN (Below.refl _ _) _)⟩
              case measure => simp [intOf]; omega
            · have hxb : ((s[a].toNat : Int) == 120) = false := by simpa using hx
              have hxd : decide ((s[a].toNat : Int) = 120) = false := by simpa using hx
              have hdb : ((s[a].toNat : Int) == 46) = false := by simpa using hd
              have hxn : ((s[a].toNat : Int) != 120) = true := bne_iff_ne.2 hx
              have hdn : ((s[a].toNat : Int) != 46) = true := bne_iff_ne.2 hd
              have hdd : decide ((s[a].toNat : Int) = 46) = false := by simpa using hd
              obtain ⟨z1, z2, z3, z4⟩ := HZ.out (.inl (okG_no2 hlt hla (by rw [HS.out, hby]; exact okB_no hx hd)))
              clear hby
              obtain ⟨Q0, Q1, Q2, P0, P1, P2⟩ := XQ.out
              have Z0 := (h'.bel.cell (p := ⟨w.heap.size, 0, none⟩) (by simp <;> omega)).trans Q0
              have Z1 := (h'.bel.cell (p := ⟨w.heap.size, 1, none⟩) (by simp <;> omega)).trans Q1
              have Z2 := (h'.bel.cell (p := ⟨w.heap.size, 2, none⟩) (by simp <;> omega)).trans Q2
              have F0 := (h'.bel.frozen (p := ⟨w.heap.size, 0, none⟩) (by simp <;> omega)).trans P0
              have F1 := (h'.bel.frozen (p := ⟨w.heap.size, 1, none⟩) (by simp <;> omega)).trans P1
              have F2 := (h'.bel.frozen (p := ⟨w.heap.size, 2, none⟩) (by simp <;> omega)).trans P2
              have bl : Below w.heap.size w wr := bel0.trans (h'.bel.mono (by omega))
              clear Q0 Q1 Q2 P0 P1 P2
              go_wp2
              go_big_quiet (fail)
              go_wp2
              exact bodyPost_ret (v := .tuple #[.agg #[.int .i64 0, .int .i64 0, .slice none 0 0], .bool false]) (by simp [results, Try.results15, go_sem, Z0, Z1, Z2]) rfl ⟨none, 0, by rw [z1, z2, z3, z4]; rfl, by rw [z4]; exact World.ownsRow_nil _ _ _ _, bl_set (bl_set (bl_set (bl_drewN bl _) (by simp <;> omega) _) (by simp <;> omega) _) (by simp <;> omega) _⟩
        · have hlt' : ¬ (k : Int) < (L.length : Int) := by omega
          obtain rfl : k = L.length := by omega
          go_wp2
          go_roundw
          case rel => exact ⟨a + 1, v', by omega, by go_num, fun t ht a' ha' => by (by_cases e : a' = a); (· rw [e]; exact HOK2.out t ht); (· exact HOK.out t ht a' (by omega)), by rw [sP]; exact h'⟩
          case measure => simp [intOf]; omega
    · have hla' : ¬ (a : Int) < (S : Int) := by omega
      obtain rfl : a = S := by omega
      have hg : okG a L L.length = true := okG_iff.2 fun t ht => ⟨(HOK.out t ht 0 (by omega)).1, fun a' ha' => (HOK.out t ht a' ha').2⟩
      have hsl : (sP L L.length a).length ≤ 1048576 := by
        have := sP_len L L.length a
        have e : a * L.length ≤ 96 * 100 := Nat.mul_le_mul (by omega) (by omega)
        omega
      have hck := fun W v h => cylS_ok (a : Int) (L.length : Int) v (sP L L.length a) W h hsl
      obtain ⟨M, hM⟩ : ∃ M, sP L L.length a = M := ⟨_, rfl⟩
      rw [hM] at hck hsl h
      have HM := Lib.hid hM
      have HCK := Lib.hid hck
      have HG := Lib.hid hg
      clear hM hck hg
      obtain ⟨A3, c3, rfl⟩ := own_form h.ow
      have H1 := h
      have T0 := H1.d0
      have T1 := H1.d1
      have T2 := H1.dv
      have rdM : RdP wo (.slice A3 M.length c3) M := Rd.of_own H1.ow
      have Z0 : True := trivial
      have Z1 : True := trivial
      have Z2 : True := trivial
      have F0 : True := trivial
      have F1 : True := trivial
      have F2 : True := trivial
      have bl : True := trivial
      clear h
      cases hB : cylB (a : Int) (L.length : Int) M
      all_goals
        have hck := HCK.out
        rw [hB] at hck
        have HCK2 := Lib.hid hck
        clear hck
      · obtain ⟨z1, z2, z3, z4⟩ := HZ.out (.inr (by rw [HM.out]; exact hB))
        clear hB
        go_wp2_with fail
        refine (HCK2.out _ _ rdM).mono ?_
        rintro e w2 ⟨rfl, b2⟩
        have H2 := H1.step b2
        obtain ⟨Q0, Q1, Q2, P0, P1, P2⟩ := XQ.out
        clear Z0 Z1 Z2 F0 F1 F2 bl T0 T1 T2
        have Z0 := (H2.bel.cell (p := ⟨w.heap.size, 0, none⟩) (by simp <;> omega)).trans Q0
        have Z1 := (H2.bel.cell (p := ⟨w.heap.size, 1, none⟩) (by simp <;> omega)).trans Q1
        have Z2 := (H2.bel.cell (p := ⟨w.heap.size, 2, none⟩) (by simp <;> omega)).trans Q2
        have F0 := (H2.bel.frozen (p := ⟨w.heap.size, 0, none⟩) (by simp <;> omega)).trans P0
        have F1 := (H2.bel.frozen (p := ⟨w.heap.size, 1, none⟩) (by simp <;> omega)).trans P1
        have F2 := (H2.bel.frozen (p := ⟨w.heap.size, 2, none⟩) (by simp <;> omega)).trans P2
        have bl : Below w.heap.size w w2 := bel0.trans (H2.bel.mono (by omega))
        clear Q0 Q1 Q2 P0 P1 P2
        go_wp2
        exact bodyPost_ret (v := .tuple #[.agg #[.int .i64 0, .int .i64 0, .slice none 0 0], .bool false]) (by simp [results, Try.results15, go_sem, Z0, Z1, Z2]) rfl ⟨none, 0, by rw [z1, z2, z3, z4]; rfl, by rw [z4]; exact World.ownsRow_nil _ _ _ _, bl_set (bl_set (bl_set bl (by simp <;> omega) _) (by simp <;> omega) _) (by simp <;> omega) _⟩
      · obtain ⟨z1, z2, z3, z4⟩ := HY.out HG.out (by rw [HM.out]; exact hB)
        rw [HM.out] at z4
        clear hB
        go_wp2_with fail
        refine (HCK2.out _ _ rdM).mono ?_
        rintro e w2 ⟨rfl, b2⟩
        have H2 := H1.step b2
        obtain ⟨Q0, Q1, Q2, P0, P1, P2⟩ := XQ.out
        clear Z0 Z1 Z2 F0 F1 F2 bl T0 T1 T2
        have T0 := H2.d0
        have T1 := H2.d1
        have T2 := H2.dv
        have ow := H2.ow
        have Z0 := (H2.bel.cell (p := ⟨w.heap.size, 0, none⟩) (by simp <;> omega)).trans Q0
        have Z1 := (H2.bel.cell (p := ⟨w.heap.size, 1, none⟩) (by simp <;> omega)).trans Q1
        have Z2 := (H2.bel.cell (p := ⟨w.heap.size, 2, none⟩) (by simp <;> omega)).trans Q2
        have F0 := (H2.bel.frozen (p := ⟨w.heap.size, 0, none⟩) (by simp <;> omega)).trans P0
        have F1 := (H2.bel.frozen (p := ⟨w.heap.size, 1, none⟩) (by simp <;> omega)).trans P1
        have F2 := (H2.bel.frozen (p := ⟨w.heap.size, 2, none⟩) (by simp <;> omega)).trans P2
        have bl : Below w.heap.size w w2 := bel0.trans (H2.bel.mono (by omega))
        clear Q0 Q1 Q2 P0 P1 P2
        go_wp2
        exact bodyPost_ret (v := .tuple #[.agg #[.int .i64 (a : Int), .int .i64 (L.length : Int), .slice A3 M.length c3], .bool true]) (by simp [results, Try.results15, go_sem, Z0, Z1, Z2, T0, T1, T2]) rfl ⟨A3, c3, by rw [z1, z2, z3, z4], by rw [z4]; exact own_lo (ownsRow_setCell_below (ownsRow_setCell_below (ownsRow_setCell_below ow (by simp <;> omega) _) (by simp <;> omega) _) (by simp <;> omega) _) (by omega), bl_set (bl_set (bl_set bl (by simp <;> omega) _) (by simp <;> omega) _) (by simp <;> omega) _⟩
end Go.Proofs.Ythgllpocljeegaa
