/- Slices of Note that read as lists; the helpers of the laws on them (copy, compare, mark, look again); lengths up to 2^20. -/
import Derived.Test.YthgllpocljeegaaDoorData
import Derived.Handy
import Derived.StillTailTactics
namespace Go.Proofs.YthgllpocljeegaaDoor
open Go.RowKit

def cN (l : List (Int × Int)) : List Value := l.flatMap fun a => [.int .i64 a.1, .int .i64 a.2]
def gN (l : List (Int × Int)) (k : Nat) : Int × Int := l.getD k (0, 0)
def RdN (w : World) (v : Value) (l : List (Int × Int)) : Prop := Rd w 2 v l.length (cN l)
theorem cN_len (l : List (Int × Int)) : (cN l).length = l.length * 2 := by
  induction l with
  | nil => rfl
  | cons a l ih => rw [show cN (a :: l) = [.int .i64 a.1, .int .i64 a.2] ++ cN l from rfl, List.length_append, ih, List.length_cons]; simp only [List.length_cons, List.length_nil]; omega
theorem gN_eq {l : List (Int × Int)} {k : Nat} (h : k < l.length) : gN l k = l[k] := by simp [gN, h]
theorem gN_mem {l : List (Int × Int)} {k : Nat} (h : k < l.length) : gN l k ∈ l := by rw [gN_eq h]; exact List.getElem_mem h
theorem cN_get0 {l : List (Int × Int)} {k : Nat} (h : k < l.length) : (cN l)[k * 2 + 0]? = some (.int .i64 (gN l k).1) := by
  induction l generalizing k with
  | nil => simp at h
  | cons a l ih =>
    rw [show cN (a :: l) = [.int .i64 a.1, .int .i64 a.2] ++ cN l from rfl]
    cases k with
    | zero => simp [gN]
    | succ k =>
      have := ih (k := k) (by simpa using h)
      rw [List.getElem?_append_right (by simp; omega)]
      simp only [List.length_cons, List.length_nil]
      rw [show (k + 1) * 2 + 0 - (0 + 1 + 1) = k * 2 + 0 from by omega, this]
      simp [gN]
theorem cN_get1 {l : List (Int × Int)} {k : Nat} (h : k < l.length) : (cN l)[k * 2 + 1]? = some (.int .i64 (gN l k).2) := by
  induction l generalizing k with
  | nil => simp at h
  | cons a l ih =>
    rw [show cN (a :: l) = [.int .i64 a.1, .int .i64 a.2] ++ cN l from rfl]
    cases k with
    | zero => simp [gN]
    | succ k =>
      have := ih (k := k) (by simpa using h)
      rw [List.getElem?_append_right (by simp; omega)]
      simp only [List.length_cons, List.length_nil]
      rw [show (k + 1) * 2 + 1 - (0 + 1 + 1) = k * 2 + 1 from by omega, this]
      simp [gN]
theorem cN_append (l k : List (Int × Int)) : cN (l ++ k) = cN l ++ cN k := by simp [cN]
theorem cN_set (l : List (Int × Int)) (k : Nat) (x : Int × Int) (h : k < l.length) : (((cN l).set (k * 2) (.int .i64 x.1)).set (k * 2 + 1) (.int .i64 x.2)) = cN (l.set k x) := by
  induction l generalizing k with
  | nil => simp at h
  | cons a l ih =>
    rw [show cN (a :: l) = [.int .i64 a.1, .int .i64 a.2] ++ cN l from rfl]
    cases k with
    | zero => simp [cN]
    | succ k =>
      have := ih k (by simpa using h)
      rw [List.set_cons_succ, show cN (a :: l.set k x) = [.int .i64 a.1, .int .i64 a.2] ++ cN (l.set k x) from rfl, ← this]
      simp [show (k + 1) * 2 = k * 2 + 2 from by omega, show ∀ j, k * 2 + 2 + j = (k * 2 + j) + 2 from fun j => by omega]
theorem cN_one (l : List (Int × Int)) : ∀ u ∈ cN l, u.oneCell' = true := by
  intro u hu
  simp only [cN, List.mem_flatMap, List.mem_cons, List.not_mem_nil, or_false] at hu
  obtain ⟨a, _, rfl | rfl⟩ := hu <;> rfl
theorem info_Note : (Tryd.prog.info? 25).map (fun i => (i.zero, i.size, i.bytes)) = some (some (.agg #[.int .i64 0, .int .i64 0]), 2, 16) := by kernel_rfl
theorem take_succ_gN {l : List (Int × Int)} {k : Nat} (h : k < l.length) : l.take (k + 1) = l.take k ++ [gN l k] := by rw [List.take_succ_eq_append_getElem h, gN_eq h]
theorem all_take_N {P : Int × Int → Bool} {l : List (Int × Int)} {k : Nat} (h : k < l.length) : (l.take (k + 1)).all P = ((l.take k).all P && P (gN l k)) := by
  rw [take_succ_gN h, List.all_append]
  simp
theorem all_no_N {P : Int × Int → Bool} {l : List (Int × Int)} {k : Nat} (h : k < l.length) (hp : P (gN l k) = false) : l.all P = false := by
  cases ha : l.all P with
  | false => rfl
  | true => rw [List.all_eq_true] at ha; rw [ha _ (gN_mem h)] at hp; cases hp
theorem all_at_N {P : Int × Int → Bool} {l : List (Int × Int)} {k : Nat} (h : k < l.length) (ha : l.all P = true) : P (gN l k) = true := by
  rw [List.all_eq_true] at ha
  exact ha _ (gN_mem h)
theorem RdN.at_ {w : World} {A : Option Addr} {c : Nat} {l : List (Int × Int)} {k : Nat} (h : RdN w (.slice A l.length c) l) (hk : k < l.length) : ∃ b o, A = some ⟨b, o, none⟩ ∧ b < w.heap.size ∧ w.cell? ⟨b, o + k * 2, none⟩ = some (.int .i64 (gN l k).1) ∧ w.cell? ⟨b, o + k * 2 + 1, none⟩ = some (.int .i64 (gN l k).2) := by
  obtain ⟨b, o, hA, hb, q⟩ := Rd.look h (by omega)
  refine ⟨b, o, hA, hb, by have := q _ _ (cN_get0 hk); simpa [Nat.add_assoc] using this, by have := q _ _ (cN_get1 hk); simpa [Nat.add_assoc] using this⟩
theorem madeN (n : Nat) : (madeCells (Value.agg #[.int .i64 0, .int .i64 0]).cells (n * 2)).toList = cN (List.replicate n (0, 0)) := by
  have hf : (fun i => ((Value.agg #[.int .i64 0, .int .i64 0]).cells)[i % ((Value.agg #[.int .i64 0, .int .i64 0]).cells).size]!) = fun _ => Value.int .i64 0 := by
    funext i
    have h : i % 2 = 0 ∨ i % 2 = 1 := by omega
    rcases h with h | h <;> simp [Value.cells, h]
  have h1 : ∀ n : Nat, cN (List.replicate n (0, 0)) = List.replicate (n * 2) (Value.int .i64 0) := by
    intro n
    induction n with
    | zero => simp [cN]
    | succ n ih =>
      rw [List.replicate_succ, show cN ((0, 0) :: List.replicate n (0, 0)) = [Value.int .i64 0, Value.int .i64 0] ++ cN (List.replicate n (0, 0)) from rfl, ih, Nat.succ_mul, Nat.add_comm, ← List.replicate_append_replicate]
      rfl
  rw [h1]
  unfold madeCells
  rw [hf]
  apply List.ext_getElem?
  intro i
  rcases Nat.lt_or_ge i (n * 2) with h | h
  · simp [List.getElem?_replicate, List.getElem?_range h, h]
  · rw [List.getElem?_eq_none (by simpa using h), List.getElem?_eq_none (by simpa using h)]

theorem toNote_any (x0 x1 : Int) (w : World) : Calls Tryd.prog 8 #[.agg #[.int .i64 x0, .int .i64 x1]] w fun e w' => e = .returned (.agg #[.int .i64 x0, .int .i64 x1]) ∧ Below w.heap.size w w' := by
  go_enter Tryd.func8, Tryd.ntmps8
  go_wp2
  exact bodyPost_ret (v := .agg #[.int .i64 x0, .int .i64 x1]) (by simp [results, Tryd.results8, go_sem]) rfl ⟨rfl, by (repeat' (first | (with_reducible exact Below.refl _ _) | (with_reducible refine bl_alloc ?_ _) | (with_reducible refine bl_drewN ?_ _) | (with_reducible refine bl_drew ?_) | (with_reducible assumption) | (with_reducible refine bl_to ?_ (by assumption)) | (with_reducible refine Below.trans ?_ (by assumption)) | (with_reducible refine Below.trans ?_ (Below.mono (by assumption) ?_)) | (with_reducible refine bl_set ?_ ?_ _) | (simp; done) | (simp; omega) | omega))⟩
set_option maxHeartbeats 1600000 in
theorem toNoteS_any (v : Value) (l : List (Int × Int)) (w : World) (h1 : RdN w v l) (hl : l.length ≤ 1048576) :
    Calls Tryd.prog 12 #[v] w (NewRow 25 2 l.length (cN l) w) := by
  obtain ⟨A1, c1, rfl, _, _⟩ := h1.form
  obtain ⟨i0, hi0, hz0, hz1, hz2⟩ := info_parts info_Note
  go_enter Tryd.func12, Tryd.ntmps12
  go_wp2_with (at_make; refine wpList_make_full _ rfl _ _ _ rfl w.heap.size 25 i0 _ 2 Tryd.underlying31 hi0 hz0 hz1 _ _ _ _ l.length rfl rfl rfl rfl (by rw [hz2]; omega) (by unfold maxLen; omega) (Nat.le_refl _) ?_; intro w1 own1 g1)
  have own2 : w1.ownsRow w.heap.size 25 2 (.slice (some ⟨w.heap.size, 0, none⟩) l.length l.length) l.length (cN ((l.take 0) ++ (List.replicate l.length (0, 0)).drop 0)) := by
    rw [madeN] at own1
    simpa using own1
  have b1 : Below w.heap.size w w1 := (Below.refl _ _).grown g1 (Nat.le_refl _) (by simp)
  have sz1 : w.heap.size < w1.heap.size := (own2.lt _ rfl).2
  clear own1 g1
  go_loopw [4] (fun i wr => ∃ k : Nat, k ≤ l.length ∧ i = .int .i64 k ∧ Below w.heap.size w wr ∧ wr.ownsRow w.heap.size 25 2 (.slice (some ⟨w.heap.size, 0, none⟩) l.length l.length) l.length (cN (l.take k ++ (List.replicate l.length (0, 0)).drop k))) (fun i _ => l.length - (intOf i).toNat)
  case atStart => exact ⟨0, Nat.zero_le _, rfl, b1, own2⟩
  case round =>
    obtain ⟨k, hk, rfl, bel, ow⟩ := hrel
    by_cases hlt : k < l.length
    · obtain ⟨b, o, rfl, hb, e0, e1⟩ := RdN.at_ (h1.bl bel) hlt
      have hlen : (l.take k ++ (List.replicate l.length (0, 0)).drop k).length = l.length := by simp; omega
      have HL := Lib.hid hlen
      clear hlen h1
      have hlt' : (k : Int) < (l.length : Int) := by omega
      go_wp2_with (go_at_call 8; refine (toNote_any _ _ _).mono ?_; rintro e w2 ⟨rfl, b2⟩; have ow2 := own_bl ow b2; have y0 : w2.cell? ⟨w.heap.size, k * 2, none⟩ = some (.int .i64 (gN (l.take k ++ (List.replicate l.length (0, 0)).drop k) k).1) := (ow2.cellAt _ (by omega)).trans (cN_get0 (by rw [HL.out]; exact hlt)); have y1 : w2.cell? ⟨w.heap.size, k * 2 + 1, none⟩ = some (.int .i64 (gN (l.take k ++ (List.replicate l.length (0, 0)).drop k) k).2) := (ow2.cellAt _ (by omega)).trans (cN_get1 (by rw [HL.out]; exact hlt)); have frz := fun j => ow2.frozenAt j; have f0 := frz (k * 2); have f1 := frz (k * 2 + 1); clear frz)
      have ow3 := ((ow2.stored (k * 2) (.int .i64 (gN l k).1)).1.stored (k * 2 + 1) (.int .i64 (gN l k).2)).1
      rw [cN_set _ _ _ (by rw [HL.out]; exact hlt), gN_eq hlt, take_succ_set _ _ _ hlt (by simp), ← gN_eq hlt] at ow3
      have bel3 : Below w.heap.size w ((w2.setCell ⟨w.heap.size, k * 2, none⟩ (.int .i64 (gN l k).1)).setCell ⟨w.heap.size, k * 2 + 1, none⟩ (.int .i64 (gN l k).2)) := bl_set (bl_set (bl_to bel b2) (by simp) _) (by simp) _
      go_roundw
      case rel => exact ⟨k + 1, by omega, by go_num, bel3, ow3⟩
      case measure => simp [intOf]; omega
    · have e : k = l.length := by omega
      have hd : l.take k ++ (List.replicate l.length (0, 0)).drop k = l := by rw [e, List.take_length, List.drop_of_length_le (by simp), List.append_nil]
      rw [hd] at ow
      clear hd e
      go_wp2
      go_ret
      exact ⟨_, _, rfl, ow, bel⟩

theorem eqNote_any (x0 x1 : Int) (w : World) : Calls Tryd.prog 17 #[.agg #[.int .i64 x0, .int .i64 x1], .agg #[.int .i64 x0, .int .i64 x1]] w fun e w' => e = .returned (.bool true) ∧ Below w.heap.size w w' := by
  go_enter Tryd.func17, Tryd.ntmps17
  go_wp2
  go_ret
  exact ⟨rfl, by (repeat' (first | (with_reducible exact Below.refl _ _) | (with_reducible refine bl_alloc ?_ _) | (with_reducible refine bl_drewN ?_ _) | (with_reducible refine bl_drew ?_) | (with_reducible assumption) | (with_reducible refine bl_to ?_ (by assumption)) | (with_reducible refine Below.trans ?_ (by assumption)) | (with_reducible refine Below.trans ?_ (Below.mono (by assumption) ?_)) | (with_reducible refine bl_set ?_ ?_ _) | (simp; done) | (simp; omega) | omega))⟩
set_option maxHeartbeats 1600000 in
set_option maxRecDepth 100000 in
theorem eqNoteS_any (v1 v2 : Value) (l : List (Int × Int)) (w : World) (h1 : RdN w v1 l) (h2 : RdN w v2 l) (hl : l.length ≤ 1048576) :
    Calls Tryd.prog 14 #[v1, v2] w fun e w' => e = .returned (.bool true) ∧ Below w.heap.size w w' := by
  obtain ⟨A1, c1, rfl, _, _⟩ := h1.form
  obtain ⟨A2, c2, rfl, _, _⟩ := h2.form
  go_enter Tryd.func14, Tryd.ntmps14
  go_wp2
  go_loopw [5] (fun i wr => ∃ k : Nat, k ≤ l.length ∧ i = .int .i64 k ∧ Below w.heap.size w wr) (fun i _ => l.length - (intOf i).toNat)
  case atStart => exact ⟨0, Nat.zero_le _, rfl, Below.refl _ _⟩
  case round =>
    obtain ⟨k, hk, rfl, bel⟩ := hrel
    by_cases hlt : k < l.length
    · obtain ⟨b1, o1, rfl, _, e0, e1⟩ := RdN.at_ (h1.bl bel) hlt
      obtain ⟨b2, o2, rfl, _, d0, d1⟩ := RdN.at_ (h2.bl bel) hlt
      clear h1 h2
      have hlt' : (k : Int) < (l.length : Int) := by omega
      go_wp2
      go_still_tail 8, (by kernel_rfl)
      change wpList _ _ _ _ _ wr.drew
      have bel' := bl_drew bel
      clear bel
      clear e0 d0 e1 d1
      generalize wr.drew = w2 at *
      go_wp2_with (go_at_call 17; refine (eqNote_any _ _ _).mono ?_; rintro e w3 ⟨rfl, b3⟩)
      go_roundw
      case rel => exact ⟨k + 1, by omega, by go_num, bl_to bel' b3⟩
      case measure => simp [intOf]; omega
    · go_wp2
      go_ret
      exact ⟨rfl, bel⟩

theorem szNoteS_any (v : Value) (l : List (Int × Int)) (k : Int) (w : World) (h1 : RdN w v l) (hk : 0 ≤ k) (hk2 : k ≤ 1048576) :
    Calls Tryd.prog 10 #[v, .int .i64 k] w fun e w' => e = .returned (.int .i64 (if k - l.length < 0 then -1 else k - l.length)) ∧ w = w' := by
  obtain ⟨A1, c1, rfl, h3, h4⟩ := h1.form
  unfold maxLen at h4
  by_cases h : k - l.length < 0
  · go_enter Tryd.func10, Tryd.ntmps10
    go_wp2
    go_ret
    exact ⟨ret_int (by first | rfl | (split <;> omega)), rfl⟩
  · go_enter Tryd.func10, Tryd.ntmps10
    go_wp2
    go_ret
    exact ⟨ret_int (by first | rfl | (split <;> omega)), rfl⟩
end Go.Proofs.YthgllpocljeegaaDoor
