/- Slices of Pin that read as lists; the helpers of the laws on them (copy, compare, mark, look again); lengths up to 2^20. -/
import Derived.Test.YthgllpocljeegaaGreatDoorData
import Derived.Handy
import Derived.StillTailTactics
namespace Go.Proofs.YthgllpocljeegaaGreatDoor
open Go.RowKit

def cP (l : List (Int × Int)) : List Value := l.flatMap fun a => [.int .i64 a.1, .int .i64 a.2]
def gP (l : List (Int × Int)) (k : Nat) : Int × Int := l.getD k (0, 0)
def RdP (w : World) (v : Value) (l : List (Int × Int)) : Prop := Rd w 2 v l.length (cP l)
theorem cP_len (l : List (Int × Int)) : (cP l).length = l.length * 2 := by
  induction l with
  | nil => rfl
  | cons a l ih => rw [show cP (a :: l) = [.int .i64 a.1, .int .i64 a.2] ++ cP l from rfl, List.length_append, ih, List.length_cons]; simp only [List.length_cons, List.length_nil]; omega
theorem gP_eq {l : List (Int × Int)} {k : Nat} (h : k < l.length) : gP l k = l[k] := by simp [gP, h]
theorem gP_mem {l : List (Int × Int)} {k : Nat} (h : k < l.length) : gP l k ∈ l := by rw [gP_eq h]; exact List.getElem_mem h
theorem cP_get0 {l : List (Int × Int)} {k : Nat} (h : k < l.length) : (cP l)[k * 2 + 0]? = some (.int .i64 (gP l k).1) := by
  induction l generalizing k with
  | nil => simp at h
  | cons a l ih =>
    rw [show cP (a :: l) = [.int .i64 a.1, .int .i64 a.2] ++ cP l from rfl]
    cases k with
    | zero => simp [gP]
    | succ k =>
      have := ih (k := k) (by simpa using h)
      rw [List.getElem?_append_right (by simp; omega)]
      simp only [List.length_cons, List.length_nil]
      rw [show (k + 1) * 2 + 0 - (0 + 1 + 1) = k * 2 + 0 from by omega, this]
      simp [gP]
theorem cP_get1 {l : List (Int × Int)} {k : Nat} (h : k < l.length) : (cP l)[k * 2 + 1]? = some (.int .i64 (gP l k).2) := by
  induction l generalizing k with
  | nil => simp at h
  | cons a l ih =>
    rw [show cP (a :: l) = [.int .i64 a.1, .int .i64 a.2] ++ cP l from rfl]
    cases k with
    | zero => simp [gP]
    | succ k =>
      have := ih (k := k) (by simpa using h)
      rw [List.getElem?_append_right (by simp; omega)]
      simp only [List.length_cons, List.length_nil]
      rw [show (k + 1) * 2 + 1 - (0 + 1 + 1) = k * 2 + 1 from by omega, this]
      simp [gP]
theorem cP_append (l k : List (Int × Int)) : cP (l ++ k) = cP l ++ cP k := by simp [cP]
theorem cP_set (l : List (Int × Int)) (k : Nat) (x : Int × Int) (h : k < l.length) : (((cP l).set (k * 2) (.int .i64 x.1)).set (k * 2 + 1) (.int .i64 x.2)) = cP (l.set k x) := by
  induction l generalizing k with
  | nil => simp at h
  | cons a l ih =>
    rw [show cP (a :: l) = [.int .i64 a.1, .int .i64 a.2] ++ cP l from rfl]
    cases k with
    | zero => simp [cP]
    | succ k =>
      have := ih k (by simpa using h)
      rw [List.set_cons_succ, show cP (a :: l.set k x) = [.int .i64 a.1, .int .i64 a.2] ++ cP (l.set k x) from rfl, ← this]
      simp [show (k + 1) * 2 = k * 2 + 2 from by omega, show ∀ j, k * 2 + 2 + j = (k * 2 + j) + 2 from fun j => by omega]
theorem cP_one (l : List (Int × Int)) : ∀ u ∈ cP l, u.oneCell' = true := by
  intro u hu
  simp only [cP, List.mem_flatMap, List.mem_cons, List.not_mem_nil, or_false] at hu
  obtain ⟨a, _, rfl | rfl⟩ := hu <;> rfl
theorem info_Pin : (Tryz.prog.info? 44).map (fun i => (i.zero, i.size, i.bytes)) = some (some (.agg #[.int .i64 0, .int .i64 0]), 2, 16) := by kernel_rfl
theorem take_succ_gP {l : List (Int × Int)} {k : Nat} (h : k < l.length) : l.take (k + 1) = l.take k ++ [gP l k] := by rw [List.take_succ_eq_append_getElem h, gP_eq h]
theorem all_take_P {P : Int × Int → Bool} {l : List (Int × Int)} {k : Nat} (h : k < l.length) : (l.take (k + 1)).all P = ((l.take k).all P && P (gP l k)) := by
  rw [take_succ_gP h, List.all_append]
  simp
theorem all_no_P {P : Int × Int → Bool} {l : List (Int × Int)} {k : Nat} (h : k < l.length) (hp : P (gP l k) = false) : l.all P = false := by
  cases ha : l.all P with
  | false => rfl
  | true => rw [List.all_eq_true] at ha; rw [ha _ (gP_mem h)] at hp; cases hp
theorem all_at_P {P : Int × Int → Bool} {l : List (Int × Int)} {k : Nat} (h : k < l.length) (ha : l.all P = true) : P (gP l k) = true := by
  rw [List.all_eq_true] at ha
  exact ha _ (gP_mem h)
theorem RdP.at_ {w : World} {A : Option Addr} {c : Nat} {l : List (Int × Int)} {k : Nat} (h : RdP w (.slice A l.length c) l) (hk : k < l.length) : ∃ b o, A = some ⟨b, o, none⟩ ∧ b < w.heap.size ∧ w.cell? ⟨b, o + k * 2, none⟩ = some (.int .i64 (gP l k).1) ∧ w.cell? ⟨b, o + k * 2 + 1, none⟩ = some (.int .i64 (gP l k).2) := by
  obtain ⟨b, o, hA, hb, q⟩ := Rd.look h (by omega)
  refine ⟨b, o, hA, hb, by have := q _ _ (cP_get0 hk); simpa [Nat.add_assoc] using this, by have := q _ _ (cP_get1 hk); simpa [Nat.add_assoc] using this⟩
theorem madeP (n : Nat) : (madeCells (Value.agg #[.int .i64 0, .int .i64 0]).cells (n * 2)).toList = cP (List.replicate n (0, 0)) := by
  have hf : (fun i => ((Value.agg #[.int .i64 0, .int .i64 0]).cells)[i % ((Value.agg #[.int .i64 0, .int .i64 0]).cells).size]!) = fun _ => Value.int .i64 0 := by
    funext i
    have h : i % 2 = 0 ∨ i % 2 = 1 := by omega
    rcases h with h | h <;> simp [Value.cells, h]
  have h1 : ∀ n : Nat, cP (List.replicate n (0, 0)) = List.replicate (n * 2) (Value.int .i64 0) := by
    intro n
    induction n with
    | zero => simp [cP]
    | succ n ih =>
      rw [List.replicate_succ, show cP ((0, 0) :: List.replicate n (0, 0)) = [Value.int .i64 0, Value.int .i64 0] ++ cP (List.replicate n (0, 0)) from rfl, ih, Nat.succ_mul, Nat.add_comm, ← List.replicate_append_replicate]
      rfl
  rw [h1]
  unfold madeCells
  rw [hf]
  apply List.ext_getElem?
  intro i
  rcases Nat.lt_or_ge i (n * 2) with h | h
  · simp [List.getElem?_replicate, List.getElem?_range h, h]
  · rw [List.getElem?_eq_none (by simpa using h), List.getElem?_eq_none (by simpa using h)]



end Go.Proofs.YthgllpocljeegaaGreatDoor
