/- s[:k] and s[k:] at slices of Entry; no condition. -/
import Derived.Test.YtighmoedkknkoaaStEntry
namespace Go.Proofs.Ytighmoedkknkoaa
open Go.RowKit

theorem size_Entry (wx : World) : (sizeOf 41).run Try.prog wx = .ok 2 wx := by kernel_rfl
theorem run_sl_to (g o n c k : Nat) (hk : k ≤ c) (wx : World) : (Instr.slice 25 (.slice (some ⟨g, o, none⟩) n c) none (some (.int .i64 (k : Int))) none).run Try.prog wx = .ok (.slice (some ⟨g, o, none⟩) k c) wx := by
  have h1 : 0 ≤ (k : Int) ∧ (k : Int) ≤ (c : Int) := by omega
  simp [Instr.slice, run_underlying Try.underlying25, Instr.sliceBounds, Instr.sliceBound, asIntOf, hk, go_sem, size_Entry, Addr.add]
theorem run_sl_from (g o n c k : Nat) (hk : k ≤ n) (hn : n ≤ c) : ∃ X, (∀ wx : World, (Instr.slice 25 (.slice (some ⟨g, o, none⟩) n c) (some (.int .i64 (k : Int))) none none).run Try.prog wx = .ok (.slice (some ⟨g, X, none⟩) (n - k) (c - k)) wx) ∧ (k < n → X = o + k * 2) := by
  by_cases h : c = k
  · refine ⟨o, fun wx => ?_, fun h2 => by omega⟩
    simp [Instr.slice, run_underlying Try.underlying25, Instr.sliceBounds, Instr.sliceBound, asIntOf, hk, go_sem, size_Entry, Addr.add, h]
  · refine ⟨o + k * 2, fun wx => ?_, fun _ => rfl⟩
    simp [Instr.slice, run_underlying Try.underlying25, Instr.sliceBounds, Instr.sliceBound, asIntOf, hk, go_sem, size_Entry, Addr.add, h]
theorem run_sl_none_from (n : Nat) (k : Nat) (hk : k ≤ n) (hn : n = 0) (wx : World) : (Instr.slice 25 (.slice none n 0) (some (.int .i64 (k : Int))) none none).run Try.prog wx = .ok (.slice none (n - k) 0) wx := by
  have h0 : k = 0 := by omega
  subst h0 hn
  simp [Instr.slice, run_underlying Try.underlying25, Instr.sliceBounds, Instr.sliceBound, asIntOf, go_sem, size_Entry]
theorem run_sl_none_to (wx : World) : (Instr.slice 25 (.slice none 0 0) none (some (.int .i64 ((0 : Nat) : Int))) none).run Try.prog wx = .ok (.slice none 0 0) wx := by
  simp [Instr.slice, run_underlying Try.underlying25, Instr.sliceBounds, Instr.sliceBound, asIntOf, go_sem, size_Entry]
theorem add_zero_addr (a : Addr) : a.add 0 = a := by simp [Addr.add]
theorem gT_take {t : List (ByteArray × Value)} {k j : Nat} (h : j < k) : gT (t.take k) j = gT t j := by simp only [gT, List.getD_eq_getElem?_getD, List.getElem?_take, if_pos h]
theorem gE_take {l : List En} {k j : Nat} (h : j < k) : gE (l.take k) j = gE l j := by simp only [gE, List.getD_eq_getElem?_getD, List.getElem?_take, if_pos h]
theorem gT_drop (t : List (ByteArray × Value)) (k j : Nat) : gT (t.drop k) j = gT t (k + j) := by simp only [gT, List.getD_eq_getElem?_getD, List.getElem?_drop]
theorem gE_drop (l : List En) (k j : Nat) : gE (l.drop k) j = gE l (k + j) := by simp only [gE, List.getD_eq_getElem?_getD, List.getElem?_drop]
theorem cE_get {t : List (ByteArray × Value)} {k j : Nat} {u : Value} (h : (cE (t.drop k))[j]? = some u) : (cE t)[k * 2 + j]? = some u := by
  by_cases hk : k ≤ t.length
  · have e : cE t = cE (t.take k) ++ cE (t.drop k) := by rw [← cE_append, List.take_append_drop]
    have hl : (cE (t.take k)).length = k * 2 := by rw [cE_len, List.length_take]; omega
    rw [e, List.getElem?_append_right (by omega), hl, Nat.add_sub_cancel_left]
    exact h
  · rw [List.drop_of_length_le (by omega)] at h
    simp [cE] at h
/-- v[:k] -/
theorem run_slR_to {w : World} {A : Option Addr} {c k : Nat} {l : List En} (h : RdE w (.slice A l.length c) l) (hk : k ≤ l.length) :
    (∀ wx : World, (Instr.slice 25 (.slice A l.length c) none (some (.int .i64 (k : Int))) none).run Try.prog wx = .ok (.slice A k c) wx) ∧ RdE w (.slice A k c) (l.take k) := by
  obtain ⟨A', c', he, h1, h2⟩ := h.form
  obtain ⟨rfl, rfl⟩ : A = A' ∧ c = c' := by simpa using he
  have hkc : k ≤ c := by omega
  refine ⟨fun wx => ?_, ?_⟩
  · by_cases hc : c = 0
    · simp [Instr.slice, run_underlying Try.underlying25, Instr.sliceBounds, Instr.sliceBound, asIntOf, hkc, go_sem, size_Entry, hc]
      omega
    · cases A <;> simp [Instr.slice, run_underlying Try.underlying25, Instr.sliceBounds, Instr.sliceBound, asIntOf, hkc, go_sem, size_Entry, hc, add_zero_addr]
  · obtain ⟨t, ht, h0, A2, c2, he2, q1, q2, q3, q4⟩ := h
    obtain ⟨rfl, _, rfl⟩ : A = A2 ∧ True ∧ c = c2 := by simpa using he2
    have hl : (l.take k).length = k := by rw [List.length_take]; omega
    refine ⟨t.take k, ⟨by rw [List.length_take, List.length_take, ht.1], fun j hj => ?_⟩, by rw [cE_len, List.length_take, hl, ht.1]; omega, A, c, by rw [hl], by omega, q2, q3, fun hn => ?_⟩
    · rw [hl] at hj
      rw [gT_take hj, gE_take hj]
      exact ht.2 j (by omega)
    · rw [hl] at hn
      obtain ⟨b, o, hA, hb, q⟩ := q4 (by omega)
      refine ⟨b, o, hA, hb, fun j u hu => q j u ?_⟩
      have e : cE t = cE (t.take k) ++ cE (t.drop k) := by rw [← cE_append, List.take_append_drop]
      have hj : j < (cE (t.take k)).length := by
        rcases Nat.lt_or_ge j (cE (t.take k)).length with h | h
        · exact h
        · rw [List.getElem?_eq_none h] at hu; cases hu
      rw [e, List.getElem?_append_left hj]
      exact hu
/-- v[k:] -/
theorem run_slR_from {w : World} {A : Option Addr} {c k : Nat} {l : List En} (h : RdE w (.slice A l.length c) l) (hk : k ≤ l.length) :
    ∃ X, (∀ wx : World, (Instr.slice 25 (.slice A l.length c) (some (.int .i64 (k : Int))) none none).run Try.prog wx = .ok (.slice X (l.length - k) (c - k)) wx) ∧ RdE w (.slice X (l.length - k) (c - k)) (l.drop k) := by
  obtain ⟨t, ht, h0, A2, c2, he2, q1, q2, q3, q4⟩ := h
  obtain ⟨rfl, _, rfl⟩ : A = A2 ∧ True ∧ c = c2 := by simpa using he2
  refine ⟨if c = k then A else A.map (·.add (k * 2)), fun wx => ?_, ?_⟩
  · simp [Instr.slice, run_underlying Try.underlying25, Instr.sliceBounds, Instr.sliceBound, asIntOf, hk, go_sem, size_Entry]
  · have hl : (l.drop k).length = l.length - k := List.length_drop
    refine ⟨t.drop k, ⟨by rw [List.length_drop, List.length_drop, ht.1], fun j hj => ?_⟩, by rw [cE_len, List.length_drop, hl, ht.1], _, _, by rw [hl], by omega, by omega, fun hX => ?_, fun hn => ?_⟩
    · rw [hl] at hj
      rw [gT_drop, gE_drop]
      exact ht.2 (k + j) (by omega)
    · split at hX
      · omega
      · cases A with
        | none => have := q3 rfl; omega
        | some a => simp at hX
    · rw [hl] at hn
      obtain ⟨b, o, rfl, hb, q⟩ := q4 (by omega)
      rw [if_neg (by omega)]
      refine ⟨b, o + k * 2, by simp [Addr.add], hb, fun j u hu => ?_⟩
      have := q (k * 2 + j) u (cE_get hu)
      rwa [← Nat.add_assoc] at this
end Go.Proofs.Ytighmoedkknkoaa
