/- More on the draws: the cursor's block beside other blocks; 'at' as a function; no condition beyond lengths up to 2^20. -/
import Derived.Test.YthgllpocljeegaaGreatDoorDraw
namespace Go.Proofs.YthgllpocljeegaaGreatDoor
open Go.RowKit

/-- blocks but cb keep their cells and marks -/
theorem gr_keeps {w w' : World} {cb : Nat} (h : w.grownBy w' (some cb)) : (∀ b o, b < w.heap.size → b ≠ cb → w'.cell? ⟨b, o, none⟩ = w.cell? ⟨b, o, none⟩) ∧ (∀ b o, b < w.heap.size → b ≠ cb → w'.frozen? ⟨b, o, none⟩ = w.frozen? ⟨b, o, none⟩) ∧ ∀ b, b < w.heap.size → b < w'.heap.size :=
  ⟨fun b o hb hn => World.cell?_of_block (h.block b hb (fun e => hn (by cases e; rfl))), fun b o hb hn => World.frozen?_of_block (h.block b hb (fun e => hn (by cases e; rfl))), fun _ hb => Nat.lt_of_lt_of_le hb h.size⟩
theorem Cur.lt {w0 w : World} {cb : Nat} {v : Value} {L : List Int} (h : Cur w0 w cb v L) : cb < w.heap.size := by
  obtain ⟨x, e⟩ := h.c2
  have := World.block_lt_of_cell? w ⟨cb, 2, none⟩ e
  simpa using this
theorem Cur.blk {w0 w w' : World} {cb B : Nat} {v : Value} {L : List Int} (h : Cur w0 w cb v L) (b : Below B w w') (hB : cb < B) : Cur w0 w' cb v L := by
  have hl := h.low
  obtain ⟨bel, low, c0, ⟨i, hi, c1⟩, ⟨x, c2⟩, f1, f2⟩ := h
  exact ⟨bel.trans (b.mono (by omega)), low, (b.cell (p := ⟨cb, 0, none⟩) hB).trans c0, ⟨i, hi, (b.cell (p := ⟨cb, 1, none⟩) hB).trans c1⟩, ⟨x, (b.cell (p := ⟨cb, 2, none⟩) hB).trans c2⟩, (b.frozen (p := ⟨cb, 1, none⟩) hB).trans f1, (b.frozen (p := ⟨cb, 2, none⟩) hB).trans f2⟩
/-- a row of the call's own, not the cursor's block, is kept by a draw -/
theorem own_draw {w w' : World} {cb lo : Nat} {e : TypeId} {s n : Nat} {v : Value} {xs : List Value} (h : w.ownsRow lo e s v n xs) (g : w.grownBy w' (some cb)) (hlo : cb < lo) : w'.ownsRow lo e s v n xs :=
  h.kept g (by
    cases e : v.ownBlock with
    | none => exact .inl rfl
    | some k => exact .inr (fun e2 => by have := (h.lt k e).1; cases e2; omega))
/-- what 'at' answers -/
def atF (L : List Int) (i : Int) : Int := if L.length = 0 then 0 else gi L ((i * 5 + 1) % (L.length : Int)).toNat
theorem atF_bd {L : List Int} (hb : ∀ x ∈ L, 0 ≤ x ∧ x ≤ 255) (i : Int) : 0 ≤ atF L i ∧ atF L i ≤ 255 := by
  unfold atF
  split
  · omega
  · have h2 : (0 : Int) < (L.length : Int) := by omega
    have h3 := Int.emod_lt_of_pos (i * 5 + 1) h2
    have h4 := Int.emod_nonneg (i * 5 + 1) (b := (L.length : Int)) (by omega)
    exact hb _ (gi_mem (by omega))
end Go.Proofs.YthgllpocljeegaaGreatDoor
