/- GridText of the program and of the reference return the same; lengths up to 2^20. -/
import Derived.Test.YthgllpocljeegaaGreatDoorCyl
import Derived.Test.YthgllpocljeegaaGreatDoorStCylinder
import Derived.Test.YthgllpocljeegaaGreatDoorRowStr
import Derived.Test.YthgllpocljeegaaGreatDoorRepShelf
import Derived.Test.YthgllpocljeegaaGreatDoorAppStr
import Derived.Laws.BytesArg
import Derived.Deep.DeepCutAuto
namespace Go.Proofs.YthgllpocljeegaaGreatDoor
open Go.RowKit Go.Sort

theorem own_sameB {w w' : World} {lo : Nat} {e : TypeId} {s n : Nat} {v : Value} {xs : List Value} (h : w.ownsRow lo e s v n xs) (hb : ∀ k, v.ownBlock = some k → w'.heap[k]? = w.heap[k]?) : w'.ownsRow lo e s v n xs := by
  refine ⟨h.1, ?_⟩
  rcases h.2 with h1 | ⟨g, cap, cur, rfl, h2, h3, r⟩
  · exact .inl h1
  · exact .inr ⟨g, cap, cur, rfl, h2, (hb g rfl).trans h3, r⟩
/-- block B holds the bytes xs -/
def LT (W : World) (B : Nat) (xs : List Int) : Prop := B < W.heap.size ∧ ∀ j, j < xs.length → W.cell? ⟨B, j, none⟩ = some (.int .u8 (gi xs j)) ∧ W.frozen? ⟨B, j, none⟩ = false
theorem LT.bl {w W : World} {B : Nat} {xs : List Int} (h : LT w B xs) (b : Below w.heap.size w W) : LT W B xs :=
  ⟨Nat.lt_of_lt_of_le h.1 b.size, fun j hj => ⟨(b.cell (p := ⟨B, j, none⟩) h.1).trans (h.2 j hj).1, (b.frozen (p := ⟨B, j, none⟩) h.1).trans (h.2 j hj).2⟩⟩
theorem LT.set {w : World} {B : Nat} {xs : List Int} (h : LT w B xs) {k : Nat} (hk : k < xs.length) (x : Int) : LT (w.setCell ⟨B, k, none⟩ (.int .u8 x)) B (xs.set k x) := by
  refine ⟨by simpa using h.1, fun j hj => ?_⟩
  rw [List.length_set] at hj
  by_cases e : j = k
  · subst e
    refine ⟨?_, by simpa [go_sem] using (h.2 j hj).2⟩
    rw [World.cell?_setCell_same _ _ _ (h.2 j hj).1]
    simp [gi, hj]
  · refine ⟨?_, by simpa [go_sem] using (h.2 j hj).2⟩
    rw [World.cell?_setCell_other _ _ _ _ (by simp [e]), (h.2 j hj).1]
    simp [gi, List.getElem?_set_ne (fun q => e q.symm)]
theorem LT.str {w : World} {B c n : Nat} {xs : List Int} (h : LT w B xs) (hn : xs.length = n) : (convert 22 9 (.slice (some ⟨B, 0, none⟩) n c)).run Tryz.prog w = .ok (.string (strOfNums xs)) w :=
  run_convert_bytes_arg w 22 5 Tryz.underlying22 Tryz.underlying5 B 0 n c xs hn (fun i hi => by rw [Nat.zero_add]; exact (h.2 i (by omega)).1) 9 Tryz.underlying9
/-- []byte(s) -/
theorem conv_bytes (w : World) (n : Nat) (s : ByteArray) (hs : s.data.toList = List.replicate n 46) : ∃ c W', (convert 9 22 (.string s)).run Tryz.prog w = .ok (.slice (some ⟨w.heap.size, 0, none⟩) n c) W' ∧ LT W' w.heap.size (List.replicate n 46) ∧ Below w.heap.size w W' ∧ n ≤ c := by
  have hsz : s.size = n := by have := congrArg List.length hs; simpa using this
  have hr := run_bytes_of_string (P := Tryz.prog) w 9 22 5 s Tryz.underlying9 Tryz.underlying22 Tryz.underlying5
  have hc := grownCap_ge w s.size 0 5
  generalize grownCap w s.size 0 5 = c at *
  rw [hsz] at hr hc
  refine ⟨c, _, hr, ⟨by simp, fun j hj => ?_⟩, (Below.refl _ _).drew.alloc (by exact Nat.le_refl _) _, hc⟩
  rw [List.length_replicate] at hj
  have hj2 : j < s.data.size := by have : s.data.size = n := hsz; omega
  have hd : s.data[j].toNat = 46 := by
    have h1 : s.data.toList[j]'(by simpa using hj2) = 46 := by simp [hs]
    have h2 : s.data[j] = 46 := by simpa using h1
    rw [h2]; rfl
  constructor
  · rw [show w.heap.size = w.drew.heap.size from rfl, World.cell?_alloc_mark, bytesRow_at s c j hj2, hd]
    simp [gi, hj]
  · rw [show w.heap.size = w.drew.heap.size from rfl, World.frozen?_alloc_mark]
    have hsz2 : j < (bytesRow s c).size := by simp [bytesRow]; omega
    simp
    omega

def rowX (S : Nat) (l : List (Int × Int)) (t : Int) : Nat → List Int
  | 0 => List.replicate S 46
  | k + 1 => if (gP l k).1 = t then (rowX S l t k).set (gP l k).2.toNat 120 else rowX S l t k
theorem rowX_len (S : Nat) (l : List (Int × Int)) (t : Int) (k : Nat) : (rowX S l t k).length = S := by
  induction k with
  | zero => simp [rowX]
  | succ k ih => rw [rowX]; split <;> simp [ih]
theorem rowX_yes {S : Nat} {l : List (Int × Int)} {t : Int} {k : Nat} (h : (gP l k).1 = t) : rowX S l t (k + 1) = (rowX S l t k).set (gP l k).2.toNat 120 := by rw [rowX, if_pos h]
theorem rowX_no {S : Nat} {l : List (Int × Int)} {t : Int} {k : Nat} (h : ¬ (gP l k).1 = t) : rowX S l t (k + 1) = rowX S l t k := by rw [rowX, if_neg h]
/-- the first t lines -/
def gridN (S : Nat) (l : List (Int × Int)) : Nat → List ByteArray
  | 0 => []
  | t + 1 => gridN S l t ++ [strOfNums (rowX S l (t : Int) l.length)]
theorem gridN_len (S : Nat) (l : List (Int × Int)) (t : Nat) : (gridN S l t).length = t := by
  induction t with
  | zero => rfl
  | succ t ih => rw [gridN, List.length_append, ih]; rfl
def gridF (st tr : Int) (l : List (Int × Int)) : List ByteArray := if cylB st tr l then gridN st.toNat l tr.toNat else []
theorem gridF_len (st tr : Int) (l : List (Int × Int)) : (gridF st tr l).length ≤ 100 := by
  unfold gridF
  cases h : cylB st tr l with
  | false => simp
  | true =>
    have := (cylB_iff h).2.1
    simp only [if_true]
    rw [gridN_len]
    omega
theorem rep_list (n : Nat) : Lib.repeatL [46] n = List.replicate n 46 := by
  induction n with
  | zero => rfl
  | succ n ih => rw [Lib.repeatL, ih, List.replicate_succ]; rfl
set_option maxHeartbeats 6400000 in
set_option maxRecDepth 100000 in
theorem gridI_any (st tr : Int) (v : Value) (l : List (Int × Int)) (w : World) (h1 : RdP w v l) (hl : l.length ≤ 1048576) :
    Calls Tryz.prog 9 #[.agg #[.int .i64 st, .int .i64 tr, v]] w (NewRow 9 1 (gridF st tr l).length (cS (gridF st tr l)) w) := by
  obtain ⟨A1, c1, rfl, hc, hm⟩ := Rd.form h1
  have cc := fun W h => cylI_ok st tr (.slice A1 l.length c1) l W h hl
  have ba := bl_alloc (Below.refl _ w) (.cells #[.int .i64 st, .int .i64 tr, .slice A1 l.length c1] 31)
  cases ho : cylB st tr l
  · have hF : gridF st tr l = [] := by simp [gridF, ho]
    rw [hF]
    rw [ho] at cc
    have CC := Lib.hid cc
    clear cc ho hF
    go_enter Tryz.func9, Tryz.ntmps9
    go_wp2_with fail
    refine (CC.out _ (h1.bl ba)).mono ?_
    rintro e w1 ⟨rfl, b1⟩
    go_wp2
    go_ret
    exact ⟨none, 0, rfl, World.ownsRow_nil _ _ _ _, bl_to ba b1⟩
  obtain ⟨hS, hT, h100, hok⟩ := cylB_iff ho
  obtain ⟨S, rfl⟩ := Int.eq_ofNat_of_zero_le (show 0 ≤ st by omega)
  obtain ⟨T, rfl⟩ := Int.eq_ofNat_of_zero_le (show 0 ≤ tr by omega)
  have hF : gridF (S : Int) (T : Int) l = gridN S l T := by simp [gridF, ho]
  rw [hF]
  rw [ho] at cc
  obtain ⟨F, hFF⟩ : ∃ F, gridN S l T = F := ⟨_, rfl⟩
  rw [hFF]
  have HF := Lib.hid hFF
  have CC := Lib.hid cc
  have HOK := Lib.hid hok
  have hrep : (Lib.repeatL (⟨#[46]⟩ : ByteArray).data.toList S) = List.replicate S 46 := rep_list S
  have HREP := Lib.hid hrep
  clear cc ho hF hFF hok hrep
  go_enter Tryz.func9, Tryz.ntmps9
  go_wp2_with fail
  refine (CC.out _ (h1.bl ba)).mono ?_
  rintro e w1 ⟨rfl, b1⟩
  have q0 : w1.cell? ⟨w.heap.size, 0, none⟩ = some (.int .i64 (S : Int)) := (b1.cell (p := ⟨w.heap.size, 0, none⟩) (by simp)).trans (by simp [go_sem])
  have q1 : w1.cell? ⟨w.heap.size, 1, none⟩ = some (.int .i64 (T : Int)) := (b1.cell (p := ⟨w.heap.size, 1, none⟩) (by simp)).trans (by simp [go_sem])
  have q2 : w1.cell? ⟨w.heap.size, 2, none⟩ = some (.slice A1 l.length c1) := (b1.cell (p := ⟨w.heap.size, 2, none⟩) (by simp)).trans (by simp [go_sem])
  have sz1 : w.heap.size + 1 ≤ w1.heap.size := by have := b1.size; simpa using this
  have bel := bl_to ba b1
  have on := own_new0 (s := 1) (e := 9) (w := w1) (lo := w.heap.size + 1) sz1 rfl
  have bA := (Below.refl (w.heap.size + 1) w1).alloc sz1 (.cells #[] 9)
  clear CC ba b1
  go_wp2
  go_loopw [3, 4] (fun q i wr => ∃ k : Nat, k ≤ T ∧ i = .int .i64 k ∧ wr.ownsRow (w.heap.size + 1) 9 1 q (gridN S l k).length (cS (gridN S l k)) ∧ Below (w.heap.size + 1) w1 wr) (fun _ i _ => T - (intOf i).toNat)
  case atStart => exact ⟨0, Nat.zero_le _, rfl, on, bA⟩
  case round =>
    clear on bA
    obtain ⟨k, hk, rfl, ow, bel1⟩ := hrel
    obtain ⟨A3, c3, hq3⟩ := own_form ow
    subst hq3
    have q0 := (bel1.cell (p := ⟨w.heap.size, 0, none⟩) (Nat.lt_succ_self _)).trans q0
    have q1 := (bel1.cell (p := ⟨w.heap.size, 1, none⟩) (Nat.lt_succ_self _)).trans q1
    have q2 := (bel1.cell (p := ⟨w.heap.size, 2, none⟩) (Nat.lt_succ_self _)).trans q2
    have szr := bel1.size
    have gl := gridN_len S l k
    by_cases hlt : k < T
    · have hlt' : (k : Int) < (T : Int) := by omega
      obtain ⟨R, hR⟩ : ∃ R, gridN S l k = R := ⟨_, rfl⟩
      rw [hR] at ow gl
      rw [hR]
      have HR := Lib.hid hR
      have hRl : R.length ≤ 1000 := by omega
      clear hR gl
      go_wp2_with fail
      refine (Tryz.strings_Repeat ⟨#[46]⟩ S _ (by omega) (by simp [ByteArray.size]; omega)).mono ?_
      rintro e w2 ⟨rfl, b2⟩
      obtain ⟨cb, w3, hcv, lt3, b3, hcb⟩ := conv_bytes w2 S ⟨(Lib.repeatL (⟨#[46]⟩ : ByteArray).data.toList S).toArray⟩ (by rw [HREP.out])
      have b23 := bl_to b2 b3
      have q2' := (b23.cell (p := ⟨w.heap.size, 2, none⟩) (by show w.heap.size < wr.heap.size; omega)).trans q2
      have q0' := (b23.cell (p := ⟨w.heap.size, 0, none⟩) (by show w.heap.size < wr.heap.size; omega)).trans q0
      have q1' := (b23.cell (p := ⟨w.heap.size, 1, none⟩) (by show w.heap.size < wr.heap.size; omega)).trans q1
      have sz3 := b23.size
      have ow3 := own_bl ow b23
      have bel3 : Below (w.heap.size + 1) w1 w3 := bel1.trans (b23.mono (by omega))
      have hB : wr.heap.size ≤ w2.heap.size := b2.size
      have hB3 : w2.heap.size < w3.heap.size := lt3.1
      have hlb : ∀ b, (Value.slice A3 R.length c3).ownBlock = some b → b < w2.heap.size := fun b e => by have := (ow.lt b e).2; omega
      clear q0 q1 q2 b2 b3 b23 ow bel1
      go_wp2
      go_loopw [25] (fun i wx => ∃ j : Nat, j ≤ l.length ∧ i = .int .i64 j ∧ LT wx w2.heap.size (rowX S l (k : Int) j) ∧ Below w2.heap.size w3 wx) (fun i _ => l.length - (intOf i).toNat)
      case atStart => exact ⟨0, Nat.zero_le _, rfl, lt3, Below.refl _ _⟩
      case round =>
        clear lt3 hcv
        obtain ⟨j, hj, rfl, lt, belx⟩ := hrel
        by_cases hjl : j < l.length
        · have hjl' : (j : Int) < (l.length : Int) := by omega
          have bz : Below w.heap.size w wr := (bel.trans (bel3.mono (by omega))).trans (belx.mono (by omega))
          obtain ⟨b, o, rfl, hb, e0, e1⟩ := RdP.at_ h1 hjl
          have e0 := (bz.cell (p := ⟨b, o + j * 2, none⟩) hb).trans e0
          have e1 := (bz.cell (p := ⟨b, o + j * 2 + 1, none⟩) hb).trans e1
          obtain ⟨_, hb2⟩ := okP_bd HOK.out hjl
          obtain ⟨J, hJ⟩ := Int.eq_ofNat_of_zero_le hb2.1
          have hJS : J < S := by omega
          have hJS' : (J : Int) < (S : Int) := by omega
          have hrl := rowX_len S l (k : Int) j
          rw [hJ] at e1
          by_cases hp : (gP l j).1 = (k : Int)
          · have hx := rowX_yes (S := S) hp
            rw [hJ, show ((J : Int)).toNat = J from rfl] at hx
            rw [hp] at e0
            obtain ⟨X, hX⟩ : ∃ X, rowX S l (k : Int) j = X := ⟨_, rfl⟩
            obtain ⟨X2, hX2⟩ : ∃ X, rowX S l (k : Int) (j + 1) = X := ⟨_, rfl⟩
            rw [hX] at lt hrl hx
            rw [hX2] at hx
            have lta := lt.bl (bl_alloc (Below.refl _ wr) (.cells #[.int .i64 (k : Int), .int .i64 (J : Int)] 44))
            have ltc := (lta.2 J (by omega)).1
            have ltf := (lta.2 J (by omega)).2
            have lt5 := lta.set (k := J) (by omega) 120
            have HX2 := Lib.hid hX2
            have HX := Lib.hid hx
            have bx5 : Below w2.heap.size w3 ((wr.alloc (.cells #[.int .i64 (k : Int), .int .i64 (J : Int)] 44)).setCell ⟨w2.heap.size, J, none⟩ (.int .u8 120)) := (belx.alloc (by have := belx.size; omega) _).setCell (Nat.le_refl _) _
            clear hX hX2 hx hp hJ lt lta hb2 h1 hrl
            go_wp2
            go_roundw
            case rel => exact ⟨j + 1, by omega, by go_num, by rw [HX2.out, HX.out]; exact lt5, bx5⟩
            case measure => simp [intOf]; omega
          · have hx := rowX_no (S := S) hp
            have hpb : ((gP l j).1 == (k : Int)) = false := by rw [beq_eq_false_iff_ne]; exact hp
            have HX := Lib.hid hx
            have lt5 := lt.bl (bl_alloc (Below.refl _ wr) (.cells #[.int .i64 (gP l j).1, .int .i64 (J : Int)] 44))
            have bx5 : Below w2.heap.size w3 (wr.alloc (.cells #[.int .i64 (gP l j).1, .int .i64 (J : Int)] 44)) := belx.alloc (by have := belx.size; omega) _
            clear hx hJ lt hb2 h1 hrl
            go_wp2
            go_roundw
            case rel => exact ⟨j + 1, by omega, by go_num, by rw [HX.out]; exact lt5, bx5⟩
            case measure => simp [intOf]; omega
        · obtain rfl : j = l.length := by omega
          have hjl' : ¬ (l.length : Int) < (l.length : Int) := by omega
          have hstr := lt.str (c := cb) (rowX_len S l (k : Int) l.length)
          have ow4 : wr.ownsRow (w.heap.size + 1) 9 1 (.slice A3 R.length c3) R.length (cS R) := own_sameB ow3 (fun b e => belx.block b (hlb b e))
          have bel4 : Below (w.heap.size + 1) w1 wr := bel3.trans (belx.mono (by omega))
          have szx := belx.size
          obtain ⟨Y, hY⟩ : ∃ Y, strOfNums (rowX S l (k : Int) l.length) = Y := ⟨_, rfl⟩
          rw [hY] at hstr
          obtain ⟨R2, hR2⟩ : ∃ R2, R ++ [Y] = R2 := ⟨_, rfl⟩
          have HR2 : Hid (gridN S l (k + 1) = R2) := by show _ = _; rw [gridN, HR.out, hY, hR2]
          have HR3 := Lib.hid hR2
          clear lt ow3 bel3 belx hY hR2
          go_wp2_with (at_builtin; refine wpList_app_S _ rfl _ _ rfl (w.heap.size + 1) _ R rfl (ow4.alloc _) wr.heap.size Y rfl (by simp [go_sem]) (by omega) (by simp; omega) R2 HR3.out ?_; intro A5 c5 w5 o5 b5)
          have bel5 : Below (w.heap.size + 1) w1 w5 := (bel4.alloc (by omega) _).trans b5
          go_roundw
          case rel => exact ⟨k + 1, by omega, by go_num, by rw [HR2.out]; exact o5, bel5⟩
          case measure => simp [intOf]; omega
    · obtain rfl : k = T := by omega
      have hlt' : ¬ (k : Int) < (k : Int) := by omega
      rw [HF.out] at ow
      rw [HF.out]
      have bz : Below w.heap.size w wr := bel.trans (bel1.mono (by omega))
      go_wp2
      go_ret
      exact ⟨_, _, rfl, own_lo ow (by omega), bz⟩
end Go.Proofs.YthgllpocljeegaaGreatDoor
