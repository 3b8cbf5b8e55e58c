/- Slices of strings that read as lists; the laws' helpers on them (size, copy, compare, mark, look again); sizes up to 2^20. -/
import Derived.Test.YthgllpocljeegaaGreatDoorData
import Derived.Test.YthgllpocljeegaaGreatDoorMarkText
import Derived.Test.YthgllpocljeegaaGreatDoorQB
import Derived.Handy
namespace Go.Proofs.YthgllpocljeegaaGreatDoor
open Go.RowKit Go.Sort

def cS (l : List ByteArray) : List Value := l.map Value.string
def gS (l : List ByteArray) (k : Nat) : ByteArray := l.getD k ByteArray.empty
def RdS (w : World) (v : Value) (l : List ByteArray) : Prop := Rd w 1 v l.length (cS l)
theorem cS_len (l : List ByteArray) : (cS l).length = l.length := by simp [cS]
theorem cS_get {l : List ByteArray} {k : Nat} (h : k < l.length) : (cS l)[k]? = some (.string (gS l k)) := by simp [cS, gS, h]
theorem gS_eq {l : List ByteArray} {k : Nat} (h : k < l.length) : gS l k = l[k] := by simp [gS, h]
theorem gS_mem {l : List ByteArray} {k : Nat} (h : k < l.length) : gS l k ∈ l := by rw [gS_eq h]; exact List.getElem_mem h
theorem cS_append (l m : List ByteArray) : cS (l ++ m) = cS l ++ cS m := by simp [cS]
theorem cS_set (l : List ByteArray) (k : Nat) (x : ByteArray) : (cS l).set k (.string x) = cS (l.set k x) := by simp [cS, List.map_set]
theorem cS_one (l : List ByteArray) : ∀ u ∈ cS l, u.oneCell' = true := by
  intro u hu
  simp only [cS, List.mem_map] at hu
  obtain ⟨x, _, rfl⟩ := hu
  rfl
theorem info_str : (Tryz.prog.info? 9).map (fun i => (i.zero, i.size, i.bytes)) = some (some (.string ⟨#[]⟩), 1, 16) := by kernel_rfl
theorem take_succ_gS {l : List ByteArray} {k : Nat} (h : k < l.length) : l.take (k + 1) = l.take k ++ [gS l k] := by
  rw [List.take_succ_eq_append_getElem h, gS_eq h]
theorem RdS.bl {w W : World} {v : Value} {l : List ByteArray} (h : RdS w v l) (b : Below w.heap.size w W) : RdS W v l := Rd.bl h b
theorem RdS.at_ {w : World} {A : Option Addr} {c : Nat} {l : List ByteArray} {k : Nat} (h : RdS w (.slice A l.length c) l) (hk : k < l.length) : ∃ b o, A = some ⟨b, o, none⟩ ∧ b < w.heap.size ∧ w.cell? ⟨b, o + k, none⟩ = some (.string (gS l k)) := by
  obtain ⟨b, o, hA, hb, q⟩ := Rd.look h (by omega)
  exact ⟨b, o, hA, hb, q _ _ (cS_get hk)⟩
/-- the bytes of all -/
def szS : List ByteArray → Nat
  | [] => 0
  | s :: l => s.size + szS l
theorem szS_append (l m : List ByteArray) : szS (l ++ m) = szS l + szS m := by
  induction l with
  | nil => simp [szS]
  | cons a l ih => rw [List.cons_append, szS, szS, ih]; omega
theorem szS_take {l : List ByteArray} {k : Nat} (h : k < l.length) : szS (l.take (k + 1)) = szS (l.take k) + (gS l k).size := by
  rw [take_succ_gS h, szS_append, szS, szS]; rfl
theorem szS_le (l : List ByteArray) (k : Nat) : szS (l.take k) ≤ szS l := by
  have := szS_append (l.take k) (l.drop k)
  rw [List.take_append_drop] at this
  omega
theorem szS_at {l : List ByteArray} {k : Nat} (h : k < l.length) : (gS l k).size ≤ szS l := by
  have := szS_take h
  have := szS_le l (k + 1)
  omega
/-- the marks from k on -/
def upS (k n : Nat) : List ByteArray := (List.range n).map fun i => mkT (k + i)
theorem upS_len (k n : Nat) : (upS k n).length = n := by simp [upS]
theorem upS_get {k n i : Nat} (h : i < n) : gS (upS k n) i = mkT (k + i) := by simp [gS, upS, h]
theorem upS_get' {k n i : Nat} (h : i < (upS k n).length) : (upS k n)[i] = mkT (k + i) := by simp [upS]
end Go.Proofs.YthgllpocljeegaaGreatDoor
