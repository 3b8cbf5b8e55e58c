/- What ReadNote answers, by the two halves of the text; no condition. -/
import Derived.Test.YthgllpocljeegaaGreatDoorParse
namespace Go.Proofs.YthgllpocljeegaaGreatDoor
open Go.RowKit

theorem spl_one {c : UInt8} {l x : List UInt8} (h : spl c l = [x]) : l = x := by
  have := spl_join c l
  rw [h] at this
  simpa [List.intercalate] using this.symm
theorem rn_key {L a r : List UInt8} (h : L = a ++ 58 :: r) (ha : (58 : UInt8) ∉ a) {t p : Nat} : rnF L = some (t, p) ↔ (t ≤ 1000 ∧ p ≤ 60) ∧ a = Lib.decDigits t ∧ r = Lib.decDigits p := by
  rw [rnF_some]
  constructor
  · rintro ⟨hb, he⟩
    have h1 : spl 58 L = a :: spl 58 r := by rw [h, spl_hit ha]
    rw [he, spl_note] at h1
    have h2 := List.cons.inj h1
    exact ⟨hb, h2.1.symm, spl_one h2.2.symm⟩
  · rintro ⟨hb, rfl, rfl⟩
    exact ⟨hb, h⟩
theorem rn_none1 {L a r : List UInt8} (h : L = a ++ 58 :: r) (ha : (58 : UInt8) ∉ a) (hp : puF a = none) : rnF L = none := by
  cases hr : rnF L with
  | none => rfl
  | some x =>
    obtain ⟨t, p⟩ := x
    obtain ⟨hb, h1, _⟩ := (rn_key h ha).1 hr
    rw [puF_some.2 ⟨by omega, h1⟩] at hp
    cases hp
theorem rn_none2 {L a r : List UInt8} (h : L = a ++ 58 :: r) (ha : (58 : UInt8) ∉ a) (hp : puF r = none) : rnF L = none := by
  cases hr : rnF L with
  | none => rfl
  | some x =>
    obtain ⟨t, p⟩ := x
    obtain ⟨hb, _, h1⟩ := (rn_key h ha).1 hr
    rw [puF_some.2 ⟨by omega, h1⟩] at hp
    cases hp
theorem rn_none3 {L a r : List UInt8} (h : L = a ++ 58 :: r) (ha : (58 : UInt8) ∉ a) {t p : Nat} (h1 : puF a = some t) (h2 : puF r = some p) (hb : ¬ (t ≤ 1000 ∧ p ≤ 60)) : rnF L = none := by
  cases hr : rnF L with
  | none => rfl
  | some x =>
    obtain ⟨t', p'⟩ := x
    obtain ⟨hb', q1, q2⟩ := (rn_key h ha).1 hr
    rw [puF_some.2 ⟨by omega, q1⟩] at h1
    rw [puF_some.2 ⟨by omega, q2⟩] at h2
    cases h1
    cases h2
    exact absurd hb' hb
theorem rn_some3 {L a r : List UInt8} (h : L = a ++ 58 :: r) (ha : (58 : UInt8) ∉ a) {t p : Nat} (h1 : puF a = some t) (h2 : puF r = some p) (hb : t ≤ 1000 ∧ p ≤ 60) : rnF L = some (t, p) ∧ L = ntL t p :=
  ⟨(rn_key h ha).2 ⟨hb, (puF_some.1 h1).2, (puF_some.1 h2).2⟩, by rw [h, (puF_some.1 h1).2, (puF_some.1 h2).2]; rfl⟩
theorem rn_miss {L : List UInt8} (h : (58 : UInt8) ∉ L) : rnF L = none := by
  unfold rnF
  rw [spl_none h]
theorem rn_not2 {L : List UInt8} (h : (spl 58 L).length ≠ 2) : rnF L = none := by
  unfold rnF
  split
  · rename_i a b e
    rw [e] at h
    exact absurd rfl h
  · rfl
theorem nt_in {t p : Nat} (hb : t ≤ 1000 ∧ p ≤ 60) {s : ByteArray} (h : s.data.toList = ntL t p) : ntT t p = s := ba_ext (by rw [ntT_data hb, h])
theorem nt_out {t p : Nat} (hb : ¬ (t ≤ 1000 ∧ p ≤ 60)) : ntT t p = ⟨#[]⟩ := ntT_none (by omega)
/-- the box of the result -/
structure RB (R : Nat) (W : World) : Prop where
  c0 : W.cell? ⟨R, 0, none⟩ = some (.int .i64 0)
  c1 : W.cell? ⟨R, 1, none⟩ = some (.int .i64 0)
  f0 : W.frozen? ⟨R, 0, none⟩ = false
  f1 : W.frozen? ⟨R, 1, none⟩ = false
  lt : R < W.heap.size
theorem RB.bl {R : Nat} {W W' : World} (h : RB R W) (b : Below W.heap.size W W') : RB R W' :=
  ⟨(b.cell (p := ⟨R, 0, none⟩) h.lt).trans h.c0, (b.cell (p := ⟨R, 1, none⟩) h.lt).trans h.c1, (b.frozen (p := ⟨R, 0, none⟩) h.lt).trans h.f0, (b.frozen (p := ⟨R, 1, none⟩) h.lt).trans h.f1, Nat.lt_of_lt_of_le h.lt b.size⟩
theorem RB.new (W : World) : RB W.heap.size (W.alloc (.cells #[.int .i64 0, .int .i64 0] 38)) := ⟨by simp [go_sem], by simp [go_sem], by simp [go_sem], by simp [go_sem], by simp⟩
theorem bl_two {w W : World} {R : Nat} {x y : Value} (h : Below w.heap.size w W) (hR : w.heap.size ≤ R) : Below w.heap.size w ((W.setCell ⟨R, 0, none⟩ x).setCell ⟨R, 1, none⟩ y) := bl_set (bl_set h hR _) hR _
end Go.Proofs.YthgllpocljeegaaGreatDoor
