/- A drawn region of reads and quiet calls ahead of one chain: the head walked as a quiet one; no condition. -/
import Derived.Test.YthgllpocljeegaaGreatDoorBase
import Derived.StillTailTactics
import Derived.BigQuiet
namespace Go.Proofs.YthgllpocljeegaaGreatDoor
open Go.RowKit

theorem still_of_quiet {w : World} {o : Oper} {a : Act} {K : Act → Prop} (h : o.quiet Tryz.prog a (fun w' => w' = w) K) : o.still Tryz.prog a w K := by
  obtain ⟨v, h1, h2⟩ := h
  have h3 := h1 w rfl
  unfold Oper.quietAt at h3
  unfold Oper.still
  generalize (execOp a.eval o).run Tryz.prog w = r at *
  cases r with
  | ok n w' =>
    cases n <;> simp only [Oper.quietUpon] at h3 <;> simp only [Oper.stillUpon]
    case value u => exact ⟨h3.1, by rw [h3.2]; exact h2⟩
    case skip => exact ⟨h3.1, by rw [← h3.2]; exact h2⟩
    case enter f args => exact ⟨h3.1, v, h3.2, h2⟩
  | halt x w' => simp only [Oper.quietUpon] at h3
theorem wpStill_of_quiet {w : World} {ops : Array Oper} {Q : Act → Prop} {rest : List Oper} : ∀ {a : Act}, wpQuiet Tryz.prog ops (fun w' => w' = w) Q rest a → wpStill Tryz.prog ops w Q rest a := by
  induction rest with
  | nil => intro a h; exact h
  | cons o rest ih =>
    intro a h
    unfold wpStill
    unfold wpQuiet at h
    split
    · rename_i hw
      rw [if_pos hw] at h
      exact still_of_quiet (Oper.quiet_mono (fun _ h => ih h) h)
    · rename_i hw
      rw [if_neg hw] at h
      exact ih h
theorem region_tail {id : Nat} {Q : Exit → Act → World → Prop} {a : Act} {w : World} {l : List Oper} (n : Nat) (hm : Tryz.prog.follows .mixedOrders = true) (hB : Region.lexTailB .any l.toArray n = true)
    (h : wpQuiet Tryz.prog l.toArray (fun w' => w' = w.drew) (fun a' => wpList Tryz.prog l.toArray Q (l.drop n) a' w.drew) (l.take n) a) : (Code.region id l.toArray true).wp Tryz.prog Q a w :=
  wp_region_still_tail n hm hB (wpStill_of_quiet h)
end Go.Proofs.YthgllpocljeegaaGreatDoor
