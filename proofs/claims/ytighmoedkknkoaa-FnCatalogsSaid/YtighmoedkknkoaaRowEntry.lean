/- Slices of Entry that read as lists: a name and a tune each; the helpers of the laws on them (size, copy, compare); sizes up to 2^20. -/
import Derived.Test.YtighmoedkknkoaaRowNote
namespace Go.Proofs.Ytighmoedkknkoaa
open Go.RowKit

/-- a name and a tune -/
abbrev En := ByteArray × List (Int × Int)
/-- the cells of a row of entries: the names and the tunes' slices -/
def cE (t : List (ByteArray × Value)) : List Value := t.flatMap fun a => [.string a.1, a.2]
def gT (t : List (ByteArray × Value)) (k : Nat) : ByteArray × Value := t.getD k (ByteArray.empty, .slice none 0 0)
def gE (l : List En) (k : Nat) : En := l.getD k (ByteArray.empty, [])
/-- the tunes' slices read as the tunes -/
def RdT (w : World) (t : List (ByteArray × Value)) (l : List En) : Prop := t.length = l.length ∧ ∀ k, k < l.length → (gT t k).1 = (gE l k).1 ∧ RdN w (gT t k).2 (gE l k).2
def RdE (w : World) (v : Value) (l : List En) : Prop := ∃ t, RdT w t l ∧ Rd w 2 v l.length (cE t)
theorem gT_eq {t : List (ByteArray × Value)} {k : Nat} (h : k < t.length) : gT t k = t[k] := by simp [gT, h]
theorem gE_eq {l : List En} {k : Nat} (h : k < l.length) : gE l k = l[k] := by simp [gE, h]
theorem gE_mem {l : List En} {k : Nat} (h : k < l.length) : gE l k ∈ l := by rw [gE_eq h]; exact List.getElem_mem h
theorem cE_len (t : List (ByteArray × Value)) : (cE t).length = t.length * 2 := by
  induction t with
  | nil => rfl
  | cons a l ih => rw [show cE (a :: l) = [.string a.1, a.2] ++ cE l from rfl, List.length_append, ih, List.length_cons]; simp only [List.length_cons, List.length_nil]; omega
theorem cE_append (l k : List (ByteArray × Value)) : cE (l ++ k) = cE l ++ cE k := by simp [cE]
theorem cE_get0 {t : List (ByteArray × Value)} {k : Nat} (h : k < t.length) : (cE t)[k * 2 + 0]? = some (.string (gT t k).1) := by
  induction t generalizing k with
  | nil => simp at h
  | cons a l ih =>
    rw [show cE (a :: l) = [.string a.1, a.2] ++ cE l from rfl]
    cases k with
    | zero => simp [gT]
    | succ k =>
      have := ih (k := k) (by simpa using h)
      rw [List.getElem?_append_right (by simp; omega)]
      simp only [List.length_cons, List.length_nil]
      rw [show (k + 1) * 2 + 0 - (0 + 1 + 1) = k * 2 + 0 from by omega, this]
      simp [gT]
theorem cE_get1 {t : List (ByteArray × Value)} {k : Nat} (h : k < t.length) : (cE t)[k * 2 + 1]? = some (gT t k).2 := by
  induction t generalizing k with
  | nil => simp at h
  | cons a l ih =>
    rw [show cE (a :: l) = [.string a.1, a.2] ++ cE l from rfl]
    cases k with
    | zero => simp [gT]
    | succ k =>
      have := ih (k := k) (by simpa using h)
      rw [List.getElem?_append_right (by simp; omega)]
      simp only [List.length_cons, List.length_nil]
      rw [show (k + 1) * 2 + 1 - (0 + 1 + 1) = k * 2 + 1 from by omega, this]
      simp [gT]
theorem cE_set (t : List (ByteArray × Value)) (k : Nat) (x : ByteArray × Value) (h : k < t.length) : (((cE t).set (k * 2) (.string x.1)).set (k * 2 + 1) x.2) = cE (t.set k x) := by
  induction t generalizing k with
  | nil => simp at h
  | cons a l ih =>
    rw [show cE (a :: l) = [.string a.1, a.2] ++ cE l from rfl]
    cases k with
    | zero => simp [cE]
    | succ k =>
      have := ih k (by simpa using h)
      rw [List.set_cons_succ, show cE (a :: l.set k x) = [.string a.1, a.2] ++ cE (l.set k x) from rfl, ← this]
      simp [show (k + 1) * 2 = k * 2 + 2 from by omega, show ∀ j, k * 2 + 2 + j = (k * 2 + j) + 2 from fun j => by omega]
theorem take_succ_gE {l : List En} {k : Nat} (h : k < l.length) : l.take (k + 1) = l.take k ++ [gE l k] := by rw [List.take_succ_eq_append_getElem h, gE_eq h]
theorem RdT.bl {w W : World} {t : List (ByteArray × Value)} {l : List En} (h : RdT w t l) (b : Below w.heap.size w W) : RdT W t l :=
  ⟨h.1, fun k hk => ⟨(h.2 k hk).1, (h.2 k hk).2.bl b⟩⟩
theorem RdE.bl {w W : World} {v : Value} {l : List En} (h : RdE w v l) (b : Below w.heap.size w W) : RdE W v l := by
  obtain ⟨t, h1, h2⟩ := h
  exact ⟨t, h1.bl b, h2.bl b⟩
theorem RdE.form {w : World} {v : Value} {l : List En} (h : RdE w v l) : ∃ A c, v = .slice A l.length c ∧ l.length ≤ c ∧ c ≤ maxLen := by
  obtain ⟨t, h1, h2⟩ := h
  exact h2.form
/-- entry k, where it lies -/
theorem RdE.at_ {w : World} {A : Option Addr} {c : Nat} {l : List En} {k : Nat} (h : RdE w (.slice A l.length c) l) (hk : k < l.length) : ∃ b o v, A = some ⟨b, o, none⟩ ∧ b < w.heap.size ∧ w.cell? ⟨b, o + k * 2, none⟩ = some (.string (gE l k).1) ∧ w.cell? ⟨b, o + k * 2 + 1, none⟩ = some v ∧ RdN w v (gE l k).2 := by
  obtain ⟨t, h1, h2⟩ := h
  obtain ⟨b, o, hA, hb, q⟩ := Rd.look h2 (by omega)
  obtain ⟨e1, e2⟩ := h1.2 k hk
  have hkt : k < t.length := by rw [h1.1]; exact hk
  refine ⟨b, o, (gT t k).2, hA, hb, ?_, ?_, e2⟩
  · have := q _ _ (cE_get0 hkt)
    rw [e1] at this
    simpa [Nat.add_assoc] using this
  · have := q _ _ (cE_get1 hkt)
    simpa [Nat.add_assoc] using this
/-- what the laws count -/
def szE : List En → Nat
  | [] => 0
  | e :: l => e.1.size + e.2.length + szE l
theorem szE_append (l m : List En) : szE (l ++ m) = szE l + szE m := by
  induction l with
  | nil => simp [szE]
  | cons a l ih => rw [List.cons_append, szE, szE, ih]; omega
theorem szE_take {l : List En} {k : Nat} (h : k < l.length) : szE (l.take (k + 1)) = szE (l.take k) + ((gE l k).1.size + (gE l k).2.length) := by
  rw [take_succ_gE h, szE_append, szE, szE]; rfl
theorem szE_le (l : List En) (k : Nat) : szE (l.take k) ≤ szE l := by
  have := szE_append (l.take k) (l.drop k)
  rw [List.take_append_drop] at this
  omega
theorem szE_at {l : List En} {k : Nat} (h : k < l.length) : (gE l k).1.size + (gE l k).2.length ≤ szE l := by
  have := szE_take h
  have := szE_le l (k + 1)
  omega
set_option maxHeartbeats 400000 in
theorem szEntry_any (s : ByteArray) (v : Value) (l : List (Int × Int)) (k : Int) (w : World) (hs : s.size ≤ maxLen) (h1 : RdN w v l) (hk : 0 ≤ k) (hk2 : k ≤ 1048576) :
    Calls Try.prog 20 #[.agg #[.string s, v], .int .i64 k] w fun e w' => e = .returned (.int .i64 (if k - (s.size + l.length : Nat) < 0 then -1 else k - (s.size + l.length : Nat))) ∧ Below w.heap.size w w' := by
  obtain ⟨A1, c1, rfl, h3, h4⟩ := h1.form
  unfold maxLen at h4 hs
  by_cases h0 : k - s.size < 0
  · rw [if_pos (by omega)]
    go_enter Try.func20, Try.ntmps20
    go_wp2
    go_ret
    exact ⟨rfl, by (repeat' (first | (with_reducible exact Below.refl _ _) | (with_reducible refine bl_alloc ?_ _) | (with_reducible refine bl_drewN ?_ _) | (with_reducible refine bl_drew ?_) | (with_reducible assumption) | (with_reducible refine bl_to ?_ (by assumption)) | (with_reducible refine Below.trans ?_ (by assumption)) | (with_reducible refine Below.trans ?_ (Below.mono (by assumption) ?_)) | (with_reducible refine bl_set ?_ ?_ _) | (simp; done) | (simp; omega) | omega))⟩
  by_cases h : k - s.size - l.length < 0
  · rw [if_pos (by omega)]
    have cz := fun W (h : RdN W (.slice A1 l.length c1) l) => szNoteS_any (.slice A1 l.length c1) l (k - s.size) W h (by omega) (by omega)
    rw [if_pos h] at cz
    have CZ := Lib.hid cz
    clear cz
    go_enter Try.func20, Try.ntmps20
    go_wp2_with (go_at_call 45; refine (CZ.out _ (h1.bl (by (repeat' (first | (with_reducible exact Below.refl _ _) | (with_reducible refine bl_alloc ?_ _) | (with_reducible refine bl_drewN ?_ _) | (with_reducible refine bl_drew ?_) | (with_reducible assumption) | (with_reducible refine bl_to ?_ (by assumption)) | (with_reducible refine Below.trans ?_ (by assumption)) | (with_reducible refine Below.trans ?_ (Below.mono (by assumption) ?_)) | (with_reducible refine bl_set ?_ ?_ _) | (simp; done) | (simp; omega) | omega))))).mono ?_; rintro e w' ⟨rfl, rfl⟩)
    go_ret
    exact ⟨rfl, by (repeat' (first | (with_reducible exact Below.refl _ _) | (with_reducible refine bl_alloc ?_ _) | (with_reducible refine bl_drewN ?_ _) | (with_reducible refine bl_drew ?_) | (with_reducible assumption) | (with_reducible refine bl_to ?_ (by assumption)) | (with_reducible refine Below.trans ?_ (by assumption)) | (with_reducible refine Below.trans ?_ (Below.mono (by assumption) ?_)) | (with_reducible refine bl_set ?_ ?_ _) | (simp; done) | (simp; omega) | omega))⟩
  · rw [if_neg (by omega)]
    have cz := fun W (h : RdN W (.slice A1 l.length c1) l) => szNoteS_any (.slice A1 l.length c1) l (k - s.size) W h (by omega) (by omega)
    rw [if_neg h] at cz
    have CZ := Lib.hid cz
    clear cz
    go_enter Try.func20, Try.ntmps20
    go_wp2_with (go_at_call 45; refine (CZ.out _ (h1.bl (by (repeat' (first | (with_reducible exact Below.refl _ _) | (with_reducible refine bl_alloc ?_ _) | (with_reducible refine bl_drewN ?_ _) | (with_reducible refine bl_drew ?_) | (with_reducible assumption) | (with_reducible refine bl_to ?_ (by assumption)) | (with_reducible refine Below.trans ?_ (by assumption)) | (with_reducible refine Below.trans ?_ (Below.mono (by assumption) ?_)) | (with_reducible refine bl_set ?_ ?_ _) | (simp; done) | (simp; omega) | omega))))).mono ?_; rintro e w' ⟨rfl, rfl⟩)
    go_ret
    exact ⟨ret_int (by omega), by (repeat' (first | (with_reducible exact Below.refl _ _) | (with_reducible refine bl_alloc ?_ _) | (with_reducible refine bl_drewN ?_ _) | (with_reducible refine bl_drew ?_) | (with_reducible assumption) | (with_reducible refine bl_to ?_ (by assumption)) | (with_reducible refine Below.trans ?_ (by assumption)) | (with_reducible refine Below.trans ?_ (Below.mono (by assumption) ?_)) | (with_reducible refine bl_set ?_ ?_ _) | (simp; done) | (simp; omega) | omega))⟩
end Go.Proofs.Ytighmoedkknkoaa
