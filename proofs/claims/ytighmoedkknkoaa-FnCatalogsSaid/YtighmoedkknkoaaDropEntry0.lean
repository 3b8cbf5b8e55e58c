/- A row of entries without one of them; no condition. -/
import Derived.Test.YtighmoedkknkoaaCopyEntry
import Derived.Test.YtighmoedkknkoaaFind
import Derived.Deep.RegionLaw
import Derived.Test.YtighmoedkknkoaaSlEntry
namespace Go.Proofs.Ytighmoedkknkoaa
open Go.RowKit

theorem own_prefix {w : World} {lo : Nat} {e : TypeId} {s n k c : Nat} {A : Option Addr} {xs : List Value} (h : w.ownsRow lo e s (.slice A n c) n xs) (hA : A ≠ none) (hk : k ≤ n) : w.ownsRow lo e s (.slice A k c) k (xs.take (k * s)) := by
  obtain ⟨h0, h1⟩ := h
  have hm : k * s ≤ n * s := Nat.mul_le_mul_right _ hk
  refine ⟨by rw [List.length_take]; omega, ?_⟩
  rcases h1 with ⟨hv, _⟩ | ⟨g, cap, cur, hv, hlo, hg, hnc, hcm, hcs, htake⟩
  · simp at hv; exact absurd hv.1 hA
  · simp only [Value.slice.injEq] at hv
    obtain ⟨rfl, _, rfl⟩ := hv
    exact .inr ⟨g, c, cur, rfl, hlo, hg, by omega, hcm, hcs, by rw [← htake, List.take_take]; congr 1; omega⟩
theorem rd_suffix {w : World} {lo : Nat} {e : TypeId} {s n k c c' g : Nat} {xs : List Value} (h : w.ownsRow lo e s (.slice (some ⟨g, 0, none⟩) n c) n xs) (hk : k ≤ n) (hc : n - k ≤ c') (hc2 : c' ≤ maxLen) (X : Nat) (hX : k < n → X = k * s) : Rd w s (.slice (some ⟨g, X, none⟩) (n - k) c') (n - k) (xs.drop (k * s)) := by
  refine ⟨by rw [List.length_drop, h.1, Nat.sub_mul], _, _, rfl, hc, hc2, fun h => by simp at h, fun hn => ⟨g, X, rfl, (h.lt g rfl).2, fun j u hu => ?_⟩⟩
  have e := hX (by omega)
  subst e
  rw [List.getElem?_drop] at hu
  have hj : k * s + j < n * s := by
    rcases Nat.lt_or_ge (k * s + j) xs.length with h2 | h2
    · rw [h.1] at h2; exact h2
    · rw [List.getElem?_eq_none h2] at hu; cases hu
  rw [h.cellAt _ hj, hu]
theorem cE_take (t : List (ByteArray × Value)) (k : Nat) (hk : k ≤ t.length) : (cE t).take (k * 2) = cE (t.take k) := by
  have e : cE t = cE (t.take k) ++ cE (t.drop k) := by rw [← cE_append, List.take_append_drop]
  rw [e, List.take_append_of_le_length (by rw [cE_len, List.length_take]; omega), List.take_of_length_le (by rw [cE_len, List.length_take]; omega)]
theorem cE_drop (t : List (ByteArray × Value)) (k : Nat) (hk : k ≤ t.length) : (cE t).drop (k * 2) = cE (t.drop k) := by
  have e : cE t = cE (t.take k) ++ cE (t.drop k) := by rw [← cE_append, List.take_append_drop]
  have hl : (cE (t.take k)).length = k * 2 := by rw [cE_len, List.length_take]; omega
  rw [e, ← hl, List.drop_left]
/-- without entry k -/
def outL {α : Type} (l : List α) (k : Nat) : List α := l.take k ++ l.drop (k + 1)
theorem outL_len {α : Type} {l : List α} {k : Nat} (h : k < l.length) : (outL l k).length = l.length - 1 := by
  rw [outL, List.length_append, List.length_take, List.length_drop]; omega
theorem outL_get {α : Type} {l : List α} {k j : Nat} (h : k < l.length) (d : α) : (outL l k).getD j d = l.getD (if j < k then j else j + 1) d := by
  rw [outL]
  by_cases hj : j < k
  · rw [if_pos hj, List.getD_eq_getElem?_getD, List.getD_eq_getElem?_getD, List.getElem?_append_left (by rw [List.length_take]; omega), List.getElem?_take, if_pos hj]
  · rw [if_neg hj, List.getD_eq_getElem?_getD, List.getD_eq_getElem?_getD, List.getElem?_append_right (by rw [List.length_take]; omega), List.getElem?_drop, List.length_take]
    congr 2
    omega
theorem OwnT.out {lo hi g k : Nat} {w : World} {t : List (ByteArray × Value)} {l : List En} (h : OwnT lo hi g w t l) (hk : k < l.length) {hi' g' : Nat} (hb : ∀ j b, j < l.length → (gT t j).2.ownBlock = some b → b < hi' ∧ b ≠ g') : OwnT lo hi' g' w (outL t k) (outL l k) := by
  have e1 : ∀ j, gT (outL t k) j = gT t (if j < k then j else j + 1) := fun j => outL_get (by rw [h.len]; exact hk) _
  have e2 : ∀ j, gE (outL l k) j = gE l (if j < k then j else j + 1) := fun j => outL_get hk _
  have hl := outL_len hk
  have hj : ∀ j, j < (outL l k).length → (if j < k then j else j + 1) < l.length := fun j hj => by split <;> omega
  refine ⟨by rw [hl, outL_len (by rw [h.len]; exact hk), h.len], fun j q => ?_, fun j q => ?_, fun j b q e => ?_, fun i j b p q e e' => ?_⟩
  · rw [e1, e2]; exact h.nm _ (hj j q)
  · rw [e1, e2]; exact h.tn _ (hj j q)
  · rw [e1] at e; exact hb _ b (hj j q) e
  · rw [e1] at e e'
    have := h.ap _ _ b (hj i p) (hj j q) e e'
    split at this <;> split at this <;> omega
/-- 'append(v[:k], v[k+1:]...)' -/
theorem step_app_out (w : World) {ops : Array Oper} {o : Oper} {a : Act} {K : Act → World → Prop} {Q : Exit → Act → World → Prop} {E : Prop} (hgd : o.guard = none) (s x : Operand)
    (ho : o.op = .call { callee := .builtin .append, args := #[s, x], argTypes := #[25, 25] })
    (lo hi g n c c' k X : Nat) (l : List En) (h1 : OwnE lo hi w (.slice (some ⟨g, 0, none⟩) n c) l) (hn : l.length = n) (hk : k < n)
    (hs : a.eval s = .slice (some ⟨g, 0, none⟩) k c) (hx : a.eval x = .slice (some ⟨g, X, none⟩) (n - (k + 1)) c') (hX : k + 1 < n → X = (k + 1) * 2) (hc : n - (k + 1) ≤ c') (hc2 : c' ≤ maxLen)
    (hl : l.length ≤ 3000000) (hbase : lo ≤ w.heap.size) (L : List En) (hL : outL l k = L)
    (h : ∀ A c w', OwnE lo w'.heap.size w' (.slice A L.length c) L → Below lo w w' → K (a.put o.dst (.slice A L.length c)) w') :
    if Region.wanted o (yielded ops a.tmps) = true then Oper.wp Try.prog o a w K Q else E := by
  have hw : Region.wanted o (yielded ops a.tmps) = true := by simp [Region.wanted, hgd]
  rw [if_pos hw]
  subst hL hn
  obtain ⟨g1, t, ot, or, ob⟩ := h1
  have et := ot.len
  have hp := own_prefix or (by simp) (Nat.le_of_lt hk)
  rw [cE_take t k (by omega)] at hp
  have hq := rd_suffix or (k := k + 1) (by omega) hc hc2 X hX
  rw [cE_drop t (k + 1) (by omega)] at hq
  have lt1 : (t.take k).length = k := by rw [List.length_take]; omega
  have lt2 : (t.drop (k + 1)).length = l.length - (k + 1) := by rw [List.length_drop, et]
  have hsl : ∀ j, j < (t.drop (k + 1)).length → slV (gT (t.drop (k + 1)) j).2 := fun j hj => by
    have : gT (t.drop (k + 1)) j = gT t (k + 1 + j) := by rw [gT, gT, List.getD_eq_getElem?_getD, List.getD_eq_getElem?_getD, List.getElem?_drop]
    rw [this]
    exact ot.slv _ (by omega)
  refine wp_app_cE w s x ho lo _ (t.take k) (t.drop (k + 1)) hs (by rw [lt1]; exact hp) _ hx (by rw [lt2]; exact hq) hsl (by omega) hbase ?_
  intro A c2 w' ow gr at'
  have hlen : (t.take k ++ t.drop (k + 1)).length = (outL l k).length := by rw [outL_len hk, List.length_append, lt1, lt2]; omega
  rw [hlen] at ow at' ⊢
  have hg : ∀ j b, j < l.length → (gT t j).2.ownBlock = some b → b ≠ g := fun j b hj e e2 => (ot.thi j b hj e).2 (by rw [e2]; exact (ob g rfl).1)
  have k1 : OwnT lo hi g1 w' t l := ⟨et, ot.nm, fun j hj => own_same (ot.tn j hj) fun b e => gr.block b ((ot.tn j hj).lt b e).2 (fun q => hg j b hj e (by simpa [Value.ownBlock] using q)), ot.thi, ot.ap⟩
  refine h A c2 w' ?_ ((Below.refl lo w).grown gr hbase (fun k hk => (or.lt k hk).1))
  cases hv : (Value.slice A (outL l k).length c2).ownBlock with
  | none => exact ⟨w'.heap.size, outL t k, k1.out hk (fun j b q e => by have := ((k1.tn j q).lt b e).2; omega), ow, fun b e => by rw [hv] at e; cases e⟩
  | some B =>
    refine ⟨B, outL t k, k1.out hk (fun j b q e => ⟨((k1.tn j q).lt b e).2, fun e3 => ?_⟩), ow, fun b e => by rw [hv] at e; cases e; exact ⟨rfl, (ow.lt _ hv).2⟩⟩
    subst e3
    rcases at' with at' | at'
    · rw [hv] at at'; exact hg j b q e (by simpa [Value.ownBlock] using at')
    · rw [hv] at at'; cases at'; exact absurd ((ot.tn j q).lt _ e).2 (by omega)

def drpQ (l : List En) (s : ByteArray) : Bool := decide (0 ≤ fndF l s)
def drpL (l : List En) (s : ByteArray) : List En := if drpQ l s then outL l (fndF l s).toNat else l
/-- a new row of entries and a bool -/
def NewEB (l : List En) (q : Bool) (w : World) (en : Ending) (w' : World) : Prop :=
  ∃ A c, en = .returned (.tuple #[.slice A l.length c, .bool q]) ∧ OwnE w.heap.size w'.heap.size w' (.slice A l.length c) l ∧ Below w.heap.size w w'
theorem fndF_bd (l : List En) (s : ByteArray) : -1 ≤ fndF l s ∧ fndF l s < l.length := by
  unfold fndF
  have := fndN_bd l s l.length
  split <;> omega
theorem OwnE.some {lo hi : Nat} {w : World} {v : Value} {l : List En} (h : OwnE lo hi w v l) (hl : 0 < l.length) : ∃ g c, v = .slice (some ⟨g, 0, none⟩) l.length c ∧ l.length ≤ c ∧ c ≤ maxLen := by
  obtain ⟨_, _, _, or, _⟩ := h
  rcases or.2 with ⟨_, h0⟩ | ⟨g, cap, cur, rfl, _, _, h1, h2, _⟩
  · omega
  · exact ⟨g, cap, rfl, h1, h2⟩
end Go.Proofs.Ytighmoedkknkoaa
