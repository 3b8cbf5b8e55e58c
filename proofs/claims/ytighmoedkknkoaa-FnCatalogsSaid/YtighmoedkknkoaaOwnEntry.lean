/- Slices of Entry of the call's own: what lies in which blocks, what keeps them; no condition. -/
import Derived.Test.YtighmoedkknkoaaRowEntry
namespace Go.Proofs.Ytighmoedkknkoaa
open Go.RowKit

theorem RdN.bl {w W : World} {v : Value} {l : List (Int × Int)} (h : RdN w v l) (b : Below w.heap.size w W) : RdN W v l := Rd.bl h b
/-- one entry in a new block -/
theorem RdE.one {w : World} {s : ByteArray} {v : Value} {m : List (Int × Int)} (h : RdN w v m) : RdE (w.alloc (.cells #[.string s, v] 41)) (.slice (some ⟨w.heap.size, 0, none⟩) 1 1) [(s, m)] :=
  ⟨[(s, v)], ⟨rfl, fun k hk => by obtain rfl : k = 0 := by simpa using hk
                                  exact ⟨rfl, h.bl (bl_alloc (Below.refl _ _) _)⟩⟩, Rd.of_own (lo := 0) (e := 41) (by exact World.ownsRow_lit w #[.string s, v] 1 (Nat.zero_le _) (by unfold maxLen; omega) rfl)⟩
/-- the blocks from a on, ahead of b, may have turned; no other -/
structure Apart (a b : Nat) (w w' : World) : Prop where
  os : w'.os = w.os
  tape : w'.tape = w.tape
  output : w'.output = w.output
  size : w.heap.size ≤ w'.heap.size
  block : ∀ k, k < w.heap.size → (k < a ∨ b ≤ k) → w'.heap[k]? = w.heap[k]?
theorem Apart.refl (a b : Nat) (w : World) : Apart a b w w := ⟨rfl, rfl, rfl, Nat.le_refl _, fun _ _ _ => rfl⟩
theorem Apart.trans {a b : Nat} {u v w : World} (h : Apart a b u v) (k : Apart a b v w) : Apart a b u w :=
  ⟨k.os.trans h.os, k.tape.trans h.tape, k.output.trans h.output, Nat.le_trans h.size k.size, fun i hi hj => (k.block i (Nat.lt_of_lt_of_le hi h.size) hj).trans (h.block i hi hj)⟩
theorem Apart.mono {a b a' b' : Nat} {u v : World} (h : Apart a b u v) (ha : a' ≤ a) (hb : b ≤ b') : Apart a' b' u v :=
  ⟨h.os, h.tape, h.output, h.size, fun i hi hj => h.block i hi (by omega)⟩
theorem Below.apart {B : Nat} {u v : World} (h : Below B u v) (b : Nat) (hb : u.heap.size ≤ b) : Apart B b u v :=
  ⟨h.os, h.tape, h.output, h.size, fun i hi hj => h.block i (by omega)⟩
theorem World.grownBy.apart {u v : World} {r : Option Nat} (h : u.grownBy v r) {a b : Nat} (hr : ∀ k, r = some k → a ≤ k ∧ k < b) : Apart a b u v :=
  ⟨h.os, h.tape, h.output, h.size, fun i hi hj => h.block i hi (fun e => by have := hr i e.symm; omega)⟩
theorem Apart.below {a b B : Nat} {u v : World} (h : Apart a b u v) (hB : B ≤ a) (hs : B ≤ u.heap.size) : Below B u v :=
  ⟨h.os, h.tape, h.output, h.size, fun i hi => h.block i (by omega) (by omega)⟩
/-- a row whose block reads as before -/
theorem own_same {w w' : World} {lo : Nat} {e : TypeId} {s n : Nat} {v : Value} {xs : List Value} (h : w.ownsRow lo e s v n xs) (hb : ∀ k, v.ownBlock = some k → w'.heap[k]? = w.heap[k]?) : w'.ownsRow lo e s v n xs := by
  refine ⟨h.1, ?_⟩
  rcases h.2 with h1 | ⟨g, cap, cur, rfl, h2, h3, r⟩
  · exact .inl h1
  · exact .inr ⟨g, cap, cur, rfl, h2, (hb g rfl).trans h3, r⟩
theorem own_setE {w : World} {lo : Nat} {e : TypeId} {s n : Nat} {v : Value} {xs : List Value} (h : w.ownsRow lo e s v n xs) {a : Addr} (hne : v.ownBlock ≠ some a.block) (u : Value) : (w.setCell a u).ownsRow lo e s v n xs :=
  own_same h fun k hk => Below.heap_setCell _ _ _ _ (fun e => hne (by rw [hk, e]))

/-- the first entries of t: names as l's, tunes of the call's own, each in a block of its own, from lo on, ahead of hi, not in block g -/
structure OwnT (lo hi g : Nat) (w : World) (t : List (ByteArray × Value)) (l : List En) : Prop where
  len : t.length = l.length
  nm : ∀ k, k < l.length → (gT t k).1 = (gE l k).1
  tn : ∀ k, k < l.length → w.ownsRow lo 73 2 (gT t k).2 (gE l k).2.length (cN (gE l k).2)
  thi : ∀ k b, k < l.length → (gT t k).2.ownBlock = some b → b < hi ∧ b ≠ g
  ap : ∀ i j b, i < l.length → j < l.length → (gT t i).2.ownBlock = some b → (gT t j).2.ownBlock = some b → i = j
section
variable {lo hi g : Nat} {w w' : World} {t : List (ByteArray × Value)} {l : List En}
theorem OwnT.nil (lo hi g : Nat) (w : World) : OwnT lo hi g w [] [] := ⟨rfl, fun k h => by simp at h, fun k h => by simp at h, fun k b h => by simp at h, fun i j b h => by simp at h⟩
theorem OwnT.same (h : OwnT lo hi g w t l) (hb : ∀ k, lo ≤ k → k < hi → k < w.heap.size → k ≠ g → w'.heap[k]? = w.heap[k]?) : OwnT lo hi g w' t l :=
  ⟨h.len, h.nm, fun k hk => own_same (h.tn k hk) fun b e => hb b ((h.tn k hk).lt b e).1 (h.thi k b hk e).1 ((h.tn k hk).lt b e).2 (h.thi k b hk e).2, h.thi, h.ap⟩
theorem OwnT.apart {a b : Nat} (h : OwnT lo hi g w t l) (hp : Apart a b w w') (hd : hi ≤ a ∨ b ≤ lo) : OwnT lo hi g w' t l :=
  h.same fun k h1 h2 h3 _ => hp.block k h3 (by omega)
theorem OwnT.bl (h : OwnT lo hi g w t l) (hb : Below w.heap.size w w') : OwnT lo hi g w' t l :=
  h.same fun k _ _ h3 _ => hb.block k h3
/-- a store into block g -/
theorem OwnT.setg (h : OwnT lo hi g w t l) (o : Nat) (u : Value) : OwnT lo hi g (w.setCell ⟨g, o, none⟩ u) t l :=
  h.same fun k _ _ _ hk => Below.heap_setCell _ _ _ _ (fun e => hk (by simpa using e))
theorem OwnT.mono {lo' hi' : Nat} (h : OwnT lo hi g w t l) (h1 : lo' ≤ lo) (h2 : hi ≤ hi') : OwnT lo' hi' g w t l :=
  ⟨h.len, h.nm, fun k hk => own_lo (h.tn k hk) h1, fun k b hk e => ⟨Nat.lt_of_lt_of_le (h.thi k b hk e).1 h2, (h.thi k b hk e).2⟩, h.ap⟩
theorem OwnT.hig (h : OwnT lo hi g w t l) {hi' : Nat} (hh : w.heap.size ≤ hi') : OwnT lo hi' g w t l :=
  ⟨h.len, h.nm, h.tn, fun k b hk e => ⟨Nat.lt_of_lt_of_le ((h.tn k hk).lt b e).2 hh, (h.thi k b hk e).2⟩, h.ap⟩
/-- one tune more, in a block that is no older one's -/
theorem OwnT.snoc {hz : Nat} (h : OwnT lo hi g w t l) {s : ByteArray} {v : Value} {m : List (Int × Int)} (ho : w.ownsRow lo 73 2 v m.length (cN m)) (hv : ∀ b, v.ownBlock = some b → hi ≤ b ∧ b < hz ∧ b ≠ g) (hh : hi ≤ hz) : OwnT lo hz g w (t ++ [(s, v)]) (l ++ [(s, m)]) := by
  have e1 : ∀ k, k < l.length → gT (t ++ [(s, v)]) k = gT t k := fun k hk => by rw [gT_eq (by simp; have := h.len; omega), gT_eq (by have := h.len; omega), List.getElem_append_left]
  have e2 : ∀ k, k < l.length → gE (l ++ [(s, m)]) k = gE l k := fun k hk => by rw [gE_eq (by simp; omega), gE_eq hk, List.getElem_append_left]
  have f1 : gT (t ++ [(s, v)]) l.length = (s, v) := by simp [gT, ← h.len]
  have f2 : gE (l ++ [(s, m)]) l.length = (s, m) := by simp [gE]
  have hk : ∀ k, k < (l ++ [(s, m)]).length → k < l.length ∨ k = l.length := fun k hk => by simp at hk; omega
  refine ⟨by simp [h.len], fun k hk' => ?_, fun k hk' => ?_, fun k b hk' e => ?_, fun i j b hi' hj' ei ej => ?_⟩
  · rcases hk k hk' with h1 | rfl
    · rw [e1 k h1, e2 k h1]; exact h.nm k h1
    · rw [f1, f2]
  · rcases hk k hk' with h1 | rfl
    · rw [e1 k h1, e2 k h1]; exact h.tn k h1
    · rw [f1, f2]; exact ho
  · rcases hk k hk' with h1 | rfl
    · rw [e1 k h1] at e
      have := h.thi k b h1 e
      exact ⟨by omega, this.2⟩
    · rw [f1] at e
      exact (hv b e).2
  · rcases hk i hi' with h1 | rfl
    · rcases hk j hj' with h2 | rfl
      · rw [e1 i h1] at ei
        rw [e1 j h2] at ej
        exact h.ap i j b h1 h2 ei ej
      · rw [e1 i h1] at ei
        rw [f1] at ej
        have := (h.thi i b h1 ei).1
        have := (hv b ej).1
        omega
    · rcases hk j hj' with h2 | rfl
      · rw [e1 j h2] at ej
        rw [f1] at ei
        have := (h.thi j b h2 ej).1
        have := (hv b ei).1
        omega
      · rfl
theorem OwnT.rd (h : OwnT lo hi g w t l) : RdT w t l := ⟨h.len, fun k hk => ⟨h.nm k hk, Rd.of_own (h.tn k hk)⟩⟩
end

/-- a row of entries of the call's own: the row in block g (if it is not nil), the tunes each in its own; all from lo on, ahead of hi -/
def OwnE (lo hi : Nat) (w : World) (v : Value) (l : List En) : Prop :=
  ∃ g t, OwnT lo hi g w t l ∧ w.ownsRow lo 41 2 v l.length (cE t) ∧ ∀ b, v.ownBlock = some b → b = g ∧ b < hi
section
variable {lo hi : Nat} {w w' : World} {v : Value} {l : List En}
theorem OwnE.rd (h : OwnE lo hi w v l) : RdE w v l := by
  obtain ⟨g, t, h1, h2, _⟩ := h
  exact ⟨t, h1.rd, Rd.of_own h2⟩
theorem OwnE.form (h : OwnE lo hi w v l) : ∃ A c, v = .slice A l.length c := by
  obtain ⟨A, c, h, _⟩ := h.rd.form
  exact ⟨A, c, h⟩
theorem OwnE.apart {a b : Nat} (h : OwnE lo hi w v l) (hp : Apart a b w w') (hd : hi ≤ a ∨ b ≤ lo) : OwnE lo hi w' v l := by
  obtain ⟨g, t, h1, h2, h3⟩ := h
  exact ⟨g, t, h1.apart hp hd, own_same h2 fun k e => hp.block k (h2.lt k e).2 (by have := (h2.lt k e).1; have := (h3 k e).2; omega), h3⟩
theorem OwnE.bl (h : OwnE lo hi w v l) (hb : Below w.heap.size w w') : OwnE lo hi w' v l := by
  obtain ⟨g, t, h1, h2, h3⟩ := h
  exact ⟨g, t, h1.bl hb, own_same h2 fun k e => hb.block k (h2.lt k e).2, h3⟩
theorem OwnE.bl2 (hb : Below w.heap.size w w') (h : OwnE lo hi w v l) : OwnE lo hi w' v l := h.bl hb
theorem OwnE.mono {lo' hi' : Nat} (h : OwnE lo hi w v l) (h1 : lo' ≤ lo) (h2 : hi ≤ hi') : OwnE lo' hi' w v l := by
  obtain ⟨g, t, h3, h4, h5⟩ := h
  exact ⟨g, t, h3.mono h1 h2, own_lo h4 h1, fun b e => ⟨(h5 b e).1, by have := (h5 b e).2; omega⟩⟩
theorem OwnE.hig (h : OwnE lo hi w v l) {hi' : Nat} (hh : w.heap.size ≤ hi') : OwnE lo hi' w v l := by
  obtain ⟨g, t, h3, h4, h5⟩ := h
  exact ⟨g, t, h3.hig hh, h4, fun b e => ⟨(h5 b e).1, Nat.lt_of_lt_of_le (h4.lt b e).2 hh⟩⟩
end
/-- the call made a row of entries and turned nothing that was there -/
def NewE (l : List En) (w : World) (en : Ending) (w' : World) : Prop :=
  ∃ A c, en = .returned (.slice A l.length c) ∧ OwnE w.heap.size w'.heap.size w' (.slice A l.length c) l ∧ Below w.heap.size w w'
end Go.Proofs.Ytighmoedkknkoaa
