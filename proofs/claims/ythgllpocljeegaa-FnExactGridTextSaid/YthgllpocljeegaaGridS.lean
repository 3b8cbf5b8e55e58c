/- GridText of the reference; lengths up to 2^20. -/
import Derived.Test.YthgllpocljeegaaGrid
namespace Go.Proofs.Ythgllpocljeegaa
open Go.RowKit

def cU (l : List Int) : List Value := l.map (Value.int .u8)
theorem info_u8 : (Try.prog.info? 5).map (fun i => (i.zero, i.size, i.bytes)) = some (some (.int .u8 0), 1, 1) := by kernel_rfl
theorem wpList_app_U (w : World) {ops : Array Oper} {rest : List Oper} {o : Oper} {a : Act} {Q : Exit → Act → World → Prop} (hgd : o.guard = none) (s x : Operand)
    (ho : o.op = .call { callee := .builtin .append, args := #[s, x], argTypes := #[43, 43] })
    (lo : Nat) (v : Value) (l : List Int) (hs : a.eval s = v) (hown : w.ownsRow lo 5 1 v l.length (cU l))
    (g : Nat) (y : Int) (hx : a.eval x = .slice (some ⟨g, 0, none⟩) 1 1) (hc0 : w.cell? ⟨g, 0, none⟩ = some (.int .u8 y)) (hl : l.length ≤ 4000000) (hbase : lo ≤ w.heap.size) (L : List Int) (hL : l ++ [y] = L)
    (h : ∀ A c w', w'.ownsRow lo 5 1 (.slice A L.length c) L.length (cU L) → Below lo w w' → wpList Try.prog ops Q rest (a.put o.dst (.slice A L.length c)) w') : wpList Try.prog ops Q (o :: rest) a w := by
  subst hL
  obtain ⟨i0, hi0, hz0, hz1, hz2⟩ := info_parts info_u8
  refine wpList_append_own w hgd s x 43 ho lo 5 i0 (.int .u8 0) 1 1 Try.underlying43 hi0 hz0 hz1 hz2 rfl (by decide) v l.length (cU l) hs hown ⟨g, 0, none⟩ 1 1 [.int .u8 y] hx rfl ?_ ?_ (by unfold maxLen; omega) (by omega) hbase ?_
  · intro j u hj
    match j, hj with
    | 0, hj => simp at hj; subst hj; simpa [Addr.add] using hc0
  · intro u hu
    simp at hu
    subst hu
    rfl
  · intro v' w' own' gr _
    rw [show l.length + 1 = (l ++ [y]).length by simp, show cU l ++ [.int .u8 y] = cU (l ++ [y]) by simp [cU]] at own'
    obtain ⟨A, c, rfl⟩ := own_form own'
    exact h A c w' own' ((Below.refl lo w).grown gr hbase (fun k hk => (hown.lt k hk).1))
theorem LT.of_own {w : World} {lo n : Nat} {A : Option Addr} {c : Nat} {xs : List Int} (h : w.ownsRow lo 5 1 (.slice A n c) n (cU xs)) (hx : xs.length = n) (hn : 0 < n) : ∃ B, A = some ⟨B, 0, none⟩ ∧ lo ≤ B ∧ LT w B xs := by
  rcases h.2 with ⟨hv, h0⟩ | ⟨g, cap, cur, hv, h2, h3, r⟩
  · omega
  · simp only [Value.slice.injEq] at hv
    obtain ⟨rfl, _, rfl⟩ := hv
    refine ⟨g, rfl, h2, (h.lt g rfl).2, fun j hj => ⟨(h.cellAt j (by omega)).trans (by simp [cU, gi, hj]), h.frozenAt j⟩⟩
set_option maxHeartbeats 6400000 in
set_option maxRecDepth 100000 in
theorem gridS_any (st tr : Int) (v : Value) (l : List (Int × Int)) (w : World) (h1 : RdP w v l) (hl : l.length ≤ 1048576) :
    Calls Try.prog 6 #[.agg #[.int .i64 st, .int .i64 tr, v]] w (NewRow 9 1 (gridF st tr l).length (cS (gridF st tr l)) w) := by
  obtain ⟨A1, c1, rfl, hc, hm⟩ := Rd.form h1
  have cc := fun W h => cylS_ok st tr (.slice A1 l.length c1) l W h hl
  have ba := bl_alloc (bl_alloc (Below.refl _ w) (.cells #[.int .i64 st, .int .i64 tr, .slice A1 l.length c1] 30)) (.cells #[] 9)
  have on : ((w.alloc (.cells #[.int .i64 st, .int .i64 tr, .slice A1 l.length c1] 30)).alloc (.cells #[] 9)).ownsRow (w.heap.size + 1) 9 1 (.slice (some ⟨w.heap.size + 1, 0, none⟩) 0 0) 0 (cS []) := own_new0 (Nat.le_refl _) (by simp)
  have q0 : ((w.alloc (.cells #[.int .i64 st, .int .i64 tr, .slice A1 l.length c1] 30)).alloc (.cells #[] 9)).cell? ⟨w.heap.size, 0, none⟩ = some (.int .i64 st) := by simp [go_sem]
  have q1 : ((w.alloc (.cells #[.int .i64 st, .int .i64 tr, .slice A1 l.length c1] 30)).alloc (.cells #[] 9)).cell? ⟨w.heap.size, 1, none⟩ = some (.int .i64 tr) := by simp [go_sem]
  have q2 : ((w.alloc (.cells #[.int .i64 st, .int .i64 tr, .slice A1 l.length c1] 30)).alloc (.cells #[] 9)).cell? ⟨w.heap.size, 2, none⟩ = some (.slice A1 l.length c1) := by simp [go_sem]
  have szA : w.heap.size + 2 ≤ ((w.alloc (.cells #[.int .i64 st, .int .i64 tr, .slice A1 l.length c1] 30)).alloc (.cells #[] 9)).heap.size := by simp
  cases ho : cylB st tr l
  · have hF : gridF st tr l = [] := by simp [gridF, ho]
    rw [hF]
    rw [ho] at cc
    have CC := Lib.hid cc
    clear cc ho hF
    go_enter Try.func6, Try.ntmps6
    go_wp2
    generalize (w.alloc (.cells #[.int .i64 st, .int .i64 tr, .slice A1 l.length c1] 30)).alloc (.cells #[] 9) = w1 at *
    go_loopw [3, 4] (fun q i wr => q = .slice (some ⟨w.heap.size + 1, 0, none⟩) 0 0 ∧ i = .int .i64 0 ∧ wr = w1) (fun _ _ _ => 0)
    case atStart => exact ⟨rfl, rfl, rfl⟩
    case round =>
      obtain ⟨rfl, rfl, rfl⟩ := hrel
      by_cases h0 : 0 < tr
      · have hd0 : decide (0 < tr) = true := by simpa using h0
        go_wp2_with (go_at_call 20; refine (CC.out _ (h1.bl ba)).mono ?_; rintro e w2 ⟨rfl, b2⟩)
        go_ret
        exact ⟨_, _, rfl, own_lo (own_bl on b2) (by omega), bl_to ba b2⟩
      · have hd0 : decide (0 < tr) = false := by simpa using h0
        go_wp2
        go_ret
        exact ⟨_, _, rfl, own_lo on (by omega), ba⟩
  obtain ⟨hS, hT, h100, hok⟩ := cylB_iff ho
  obtain ⟨S, rfl⟩ := Int.eq_ofNat_of_zero_le (show 0 ≤ st by omega)
  obtain ⟨T, rfl⟩ := Int.eq_ofNat_of_zero_le (show 0 ≤ tr by omega)
  have hF : gridF (S : Int) (T : Int) l = gridN S l T := by simp [gridF, ho]
  rw [hF]
  rw [ho] at cc
  obtain ⟨F, hFF⟩ : ∃ F, gridN S l T = F := ⟨_, rfl⟩
  rw [hFF]
  have HF := Lib.hid hFF
  have CC := Lib.hid cc
  have HOK := Lib.hid hok
  clear cc ho hF hFF hok
  go_enter Try.func6, Try.ntmps6
  go_wp2
  generalize (w.alloc (.cells #[.int .i64 (S : Int), .int .i64 (T : Int), .slice A1 l.length c1] 30)).alloc (.cells #[] 9) = w1 at *
  go_loopw [3, 4] (fun q i wr => ∃ k : Nat, k ≤ T ∧ i = .int .i64 k ∧ wr.ownsRow (w.heap.size + 1) 9 1 q (gridN S l k).length (cS (gridN S l k)) ∧ Below (w.heap.size + 1) w1 wr) (fun _ i _ => T - (intOf i).toNat)
  case atStart => exact ⟨0, Nat.zero_le _, rfl, on, Below.refl _ _⟩
  case round =>
    clear on
    obtain ⟨k, hk, rfl, ow, bel1⟩ := hrel
    obtain ⟨A3, c3, hq3⟩ := own_form ow
    subst hq3
    have q0 := (bel1.cell (p := ⟨w.heap.size, 0, none⟩) (Nat.lt_succ_self _)).trans q0
    have q1 := (bel1.cell (p := ⟨w.heap.size, 1, none⟩) (Nat.lt_succ_self _)).trans q1
    have q2 := (bel1.cell (p := ⟨w.heap.size, 2, none⟩) (Nat.lt_succ_self _)).trans q2
    have szr := bel1.size
    have gl := gridN_len S l k
    have bz : Below w.heap.size w wr := ba.trans (bel1.mono (by omega))
    by_cases hlt : k < T
    · have hlt' : (k : Int) < (T : Int) := by omega
      have hld : decide (k < T) = true := by simpa using hlt
      obtain ⟨R, hR⟩ : ∃ R, gridN S l k = R := ⟨_, rfl⟩
      rw [hR] at ow gl
      rw [hR]
      have HR := Lib.hid hR
      have hRl : R.length ≤ 1000 := by omega
      clear hR gl
      go_wp2_with (go_at_call 20; refine (CC.out _ (h1.bl bz)).mono ?_; rintro e w2 ⟨rfl, b2⟩)
      have szr2 : wr.heap.size ≤ w2.heap.size := b2.size
      have q0' := (b2.cell (p := ⟨w.heap.size, 0, none⟩) (by show w.heap.size < wr.heap.size; omega)).trans q0
      have q1' := (b2.cell (p := ⟨w.heap.size, 1, none⟩) (by show w.heap.size < wr.heap.size; omega)).trans q1
      have q2' := (b2.cell (p := ⟨w.heap.size, 2, none⟩) (by show w.heap.size < wr.heap.size; omega)).trans q2
      have ow2 := own_bl ow b2
      have bel2 : Below (w.heap.size + 1) w1 w2 := bel1.trans (b2.mono (by omega))
      have hlb : ∀ b, (Value.slice A3 R.length c3).ownBlock = some b → b < w2.heap.size := fun b e => (ow2.lt b e).2
      have ou : (w2.alloc (.cells #[] 5)).ownsRow w2.heap.size 5 1 (.slice (some ⟨w2.heap.size, 0, none⟩) 0 0) 0 (cU []) := own_new0 (Nat.le_refl _) rfl
      have bU := bl_alloc (Below.refl _ w2) (.cells #[] 5)
      clear q0 q1 q2 b2 ow bel1
      go_loopw [5, 6] (fun q i wx => ∃ j : Nat, j ≤ S ∧ i = .int .i64 j ∧ wx.ownsRow w2.heap.size 5 1 q (List.replicate j (46 : Int)).length (cU (List.replicate j 46)) ∧ Below w2.heap.size w2 wx) (fun _ i _ => S - (intOf i).toNat)
      case atStart => exact ⟨0, Nat.zero_le _, rfl, ou, bU⟩
      case round =>
        clear ou bU
        obtain ⟨j, hj, rfl, ou, belx⟩ := hrel
        obtain ⟨A4, c4, hq4⟩ := own_form ou
        subst hq4
        have q0' := (belx.cell (p := ⟨w.heap.size, 0, none⟩) (by show w.heap.size < w2.heap.size; omega)).trans q0'
        by_cases hjS : j < S
        · have hjS' : (j : Int) < (S : Int) := by omega
          have hr2 : List.replicate j (46 : Int) ++ [46] = List.replicate (j + 1) 46 := by rw [List.replicate_succ']
          obtain ⟨Z, hZ⟩ : ∃ Z, List.replicate j (46 : Int) = Z := ⟨_, rfl⟩
          obtain ⟨Z2, hZ2⟩ : ∃ Z, List.replicate (j + 1) (46 : Int) = Z := ⟨_, rfl⟩
          have hZl : Z.length ≤ 1000 := by rw [← hZ, List.length_replicate]; omega
          rw [hZ] at ou hr2
          rw [hZ2] at hr2
          rw [hZ]
          have HZ := Lib.hid hr2
          have HZ2 := Lib.hid hZ2
          have szx := belx.size
          clear hZ hr2 hZ2
          go_wp2_with (at_builtin; refine wpList_app_U _ rfl _ _ rfl w2.heap.size _ Z rfl (ou.alloc _) wr.heap.size 46 rfl (by simp [go_sem]) (by omega) (by simp; omega) Z2 HZ.out ?_; intro A5 c5 w5 o5 b5)
          have bel5 : Below w2.heap.size w2 w5 := (belx.alloc szx _).trans b5
          go_roundw
          case rel => exact ⟨j + 1, by omega, by go_num, by rw [HZ2.out]; exact o5, bel5⟩
          case measure => simp [intOf]; omega
        · obtain rfl : j = S := by omega
          have hjS' : ¬ (j : Int) < (j : Int) := by omega
          have hlr : (List.replicate j (46 : Int)).length = j := List.length_replicate
          rw [hlr] at ou
          rw [hlr]
          obtain ⟨B, rfl, hB, lt⟩ := LT.of_own ou hlr (by omega)
          clear ou hlr
          go_wp2
          go_loopw [7] (fun i wx => ∃ p : Nat, p ≤ l.length ∧ i = .int .i64 p ∧ LT wx B (rowX j l (k : Int) p) ∧ Below w2.heap.size w2 wx) (fun i _ => l.length - (intOf i).toNat)
          case atStart => exact ⟨0, Nat.zero_le _, rfl, lt, belx⟩
          case round =>
            clear lt belx
            obtain ⟨p, hp, rfl, lt, belx⟩ := hrel
            have q2' := (belx.cell (p := ⟨w.heap.size, 2, none⟩) (by show w.heap.size < w2.heap.size; omega)).trans q2'
            have bz2 : Below w.heap.size w wr := (ba.trans (bel2.mono (by omega))).trans (belx.mono (by omega))
            have szx := belx.size
            by_cases hpl : p < l.length
            · have hpl' : (p : Int) < (l.length : Int) := by omega
              obtain ⟨b, o, rfl, hb, e0, e1⟩ := RdP.at_ h1 hpl
              have e0 := (bz2.cell (p := ⟨b, o + p * 2, none⟩) hb).trans e0
              have e1 := (bz2.cell (p := ⟨b, o + p * 2 + 1, none⟩) hb).trans e1
              obtain ⟨_, hb2⟩ := okP_bd HOK.out hpl
              obtain ⟨J, hJ⟩ := Int.eq_ofNat_of_zero_le hb2.1
              have hJS : J < j := by omega
              have hJS' : (J : Int) < (j : Int) := by omega
              have hrl := rowX_len j l (k : Int) p
              rw [hJ] at e1
              by_cases hq : (gP l p).1 = (k : Int)
              · have hx := rowX_yes (S := j) hq
                rw [hJ, show ((J : Int)).toNat = J from rfl] at hx
                rw [hq] at e0
                obtain ⟨X, hX⟩ : ∃ X, rowX j l (k : Int) p = X := ⟨_, rfl⟩
                obtain ⟨X2, hX2⟩ : ∃ X, rowX j l (k : Int) (p + 1) = X := ⟨_, rfl⟩
                rw [hX] at lt hrl hx
                rw [hX2] at hx
                have ltc := (lt.2 J (by omega)).1
                have ltf := (lt.2 J (by omega)).2
                have lt5 := lt.set (k := J) (by omega) 120
                have HX2 := Lib.hid hX2
                have HX := Lib.hid hx
                have bx5 : Below w2.heap.size w2 (wr.setCell ⟨B, J, none⟩ (.int .u8 120)) := belx.setCell hB _
                clear hX hX2 hx hq hJ lt hb2 h1 hrl
                go_wp2
                go_roundw
                case rel => exact ⟨p + 1, by omega, by go_num, by rw [HX2.out, HX.out]; exact lt5, bx5⟩
                case measure => simp [intOf]; omega
              · have hx := rowX_no (S := j) hq
                have hpb : ((gP l p).1 == (k : Int)) = false := by rw [beq_eq_false_iff_ne]; exact hq
                have HX := Lib.hid hx
                clear hx hJ hb2 h1 hrl
                go_wp2
                go_roundw
                case rel => exact ⟨p + 1, by omega, by go_num, by rw [HX.out]; exact lt, belx⟩
                case measure => simp [intOf]; omega
            · obtain rfl : p = l.length := by omega
              have hpl' : ¬ (l.length : Int) < (l.length : Int) := by omega
              have hstr := lt.str (c := c4) (rowX_len j l (k : Int) l.length)
              have ow4 : wr.ownsRow (w.heap.size + 1) 9 1 (.slice A3 R.length c3) R.length (cS R) := own_sameB ow2 (fun b e => belx.block b (hlb b e))
              have bel4 : Below (w.heap.size + 1) w1 wr := bel2.trans (belx.mono (by omega))
              obtain ⟨Y, hY⟩ : ∃ Y, strOfNums (rowX j l (k : Int) l.length) = Y := ⟨_, rfl⟩
              rw [hY] at hstr
              obtain ⟨R2, hR2⟩ : ∃ R2, R ++ [Y] = R2 := ⟨_, rfl⟩
              have HR2 : Hid (gridN j l (k + 1) = R2) := by show _ = _; rw [gridN, HR.out, hY, hR2]
              have HR3 := Lib.hid hR2
              clear lt ow2 bel2 belx hY hR2
              go_wp2_with (at_builtin; refine wpList_app_S _ rfl _ _ rfl (w.heap.size + 1) _ R rfl (ow4.alloc _) wr.heap.size Y rfl (by simp [go_sem]) (by omega) (by simp; omega) R2 HR3.out ?_; intro A5 c5 w5 o5 b5)
              have bel5 : Below (w.heap.size + 1) w1 w5 := (bel4.alloc (by omega) _).trans b5
              go_roundw
              case rel => exact ⟨k + 1, by omega, by go_num, by rw [HR2.out]; exact o5, bel5⟩
              case measure => simp [intOf]; omega
    · obtain rfl : k = T := by omega
      have hlt' : ¬ (k : Int) < (k : Int) := by omega
      have hld : decide (k < k) = false := by simp
      rw [HF.out] at ow
      rw [HF.out]
      clear gl
      go_wp2
      go_ret
      exact ⟨_, _, rfl, own_lo ow (by omega), bz⟩
end Go.Proofs.Ythgllpocljeegaa
