/- 'append' at slices of Entry of the call's own; lengths up to 2^20. -/
import Derived.Test.YtighmoedkknkoaaStEntry
import Derived.Test.YtighmoedkknkoaaAppNote
import Derived.Deep.RegionLaw
import Derived.Maps.AppendAt
namespace Go.Proofs.Ytighmoedkknkoaa
open Go.RowKit

def slV (u : Value) : Prop := ∃ A n c, u = .slice A n c
theorem cE_one {t : List (ByteArray × Value)} (h : ∀ k, k < t.length → slV (gT t k).2) : ∀ u ∈ cE t, u.oneCell' = true := by
  intro u hu
  simp only [cE, List.mem_flatMap, List.mem_cons, List.not_mem_nil, or_false] at hu
  obtain ⟨a, ha, rfl | rfl⟩ := hu
  · rfl
  · obtain ⟨k, hk, rfl⟩ := List.getElem_of_mem ha
    obtain ⟨A, n, c, e⟩ := h k hk
    rw [gT_eq hk] at e
    rw [e]; rfl
/-- 'append(v, x...)': v a row of the call's own, x any row of entries -/
theorem wp_app_cE (w : World) {o : Oper} {a : Act} {K : Act → World → Prop} {Q : Exit → Act → World → Prop} (s x : Operand)
    (ho : o.op = .call { callee := .builtin .append, args := #[s, x], argTypes := #[25, 25] })
    (lo : Nat) (v : Value) (t1 t2 : List (ByteArray × Value)) (hs : a.eval s = v) (hown : w.ownsRow lo 41 2 v t1.length (cE t1))
    (vx : Value) (hx : a.eval x = vx) (hr : Rd w 2 vx t2.length (cE t2)) (h2 : ∀ k, k < t2.length → slV (gT t2 k).2) (hl : t1.length + t2.length ≤ 3000000) (hbase : lo ≤ w.heap.size)
    (h : ∀ A c w', w'.ownsRow lo 41 2 (.slice A (t1 ++ t2).length c) (t1 ++ t2).length (cE (t1 ++ t2)) → w.grownBy w' v.ownBlock → ((Value.slice A (t1 ++ t2).length c).ownBlock = v.ownBlock ∨ (Value.slice A (t1 ++ t2).length c).ownBlock = some w.heap.size) → K (a.put o.dst (.slice A (t1 ++ t2).length c)) w') : o.wp Try.prog a w K Q := by
  obtain ⟨i0, hi0, hz0, hz1, hz2⟩ := info_parts info_Entry
  obtain ⟨A, c, rfl, hmc, hcm⟩ := hr.form
  rcases A with _ | ad
  · have hc := hr.none_
    subst hc
    have hm : t2.length = 0 := by omega
    have hn : t2 = [] := List.eq_nil_of_length_eq_zero hm
    subst hn
    have hrun := run_append_owned_none (P := Try.prog) (w := w) lo 25 o.type 41 i0 2 Try.underlying25 hi0 v t1.length (cE t1) hown
    unfold Oper.wp
    simp [execOp, ho, resolve, invoke, builtin, hs, hx, hrun, Result.andThen]
    obtain ⟨A, c, rfl⟩ := own_form hown
    have := h A c w (by rw [List.append_nil]; exact hown) (World.grownBy.refl _ _) (.inl (by rw [List.append_nil]))
    rw [List.append_nil] at this
    exact this
  · obtain ⟨v', w', hrun, q1, q2, q3, q4⟩ := run_append_own_at (P := Try.prog) w lo 25 o.type 41 i0 (.agg #[.string ⟨#[]⟩, .slice none 0 0]) 2 40 Try.underlying25 hi0 hz0 hz1 hz2 rfl (by decide) v t1.length (cE t1) hown ad t2.length c (cE t2) (by rw [cE_len])
      (by
        intro j u hu
        have hm : 0 < t2.length := by
          rcases Nat.eq_zero_or_pos t2.length with h0 | h0
          · rw [List.eq_nil_of_length_eq_zero h0] at hu; simp [cE] at hu
          · exact h0
        obtain ⟨b, o', hA, _, hc⟩ := hr.look hm
        obtain rfl : ad = ⟨b, o', none⟩ := Option.some.inj hA
        have : (⟨b, o', none⟩ : Addr).add j = ⟨b, o' + j, none⟩ := by unfold Addr.add; split <;> simp_all
        rw [this]
        exact hc j u hu) (cE_one h2) (by unfold maxLen; omega) (by omega) hbase
    rw [← List.length_append, ← cE_append] at q1
    unfold Oper.wp execOp
    simp only [ho, resolve, invoke, builtin, Sem.run_bind, Sem.run_pure, Result.andThen_ok, List.map_toArray, List.map_cons, List.map_nil, hs, hx, hrun]
    obtain ⟨A, c, rfl⟩ := own_form q1
    exact h A c w' q1 q2 q4
/-- two rows' tunes side by side -/
theorem OwnT.join {lo hi g lo2 hi2 g2 G : Nat} {w : World} {t1 t2 : List (ByteArray × Value)} {l1 l2 : List En} {lo' : Nat} (h1 : OwnT lo hi g w t1 l1) (h2 : OwnT lo2 hi2 g2 w t2 l2) (hd : hi ≤ lo2 ∨ hi2 ≤ lo) (hl1 : lo' ≤ lo) (hl : lo' ≤ lo2) (hG : ∀ k b, (k < l1.length → (gT t1 k).2.ownBlock = some b → b ≠ G) ∧ (k < l2.length → (gT t2 k).2.ownBlock = some b → b ≠ G)) : OwnT lo' w.heap.size G w (t1 ++ t2) (l1 ++ l2) := by
  have a1 : ∀ k, k < l1.length → gT (t1 ++ t2) k = gT t1 k := fun k hk => by rw [gT_eq (by simp; have := h1.len; omega), gT_eq (by have := h1.len; omega), List.getElem_append_left]
  have a2 : ∀ k, k < l2.length → gT (t1 ++ t2) (l1.length + k) = gT t2 k := fun k hk => by
    have e1 := h1.len
    have e2 := h2.len
    rw [gT_eq (by simp; omega), gT_eq (by omega), List.getElem_append_right (by omega)]
    congr 1
    omega
  have b1 : ∀ k, k < l1.length → gE (l1 ++ l2) k = gE l1 k := fun k hk => by rw [gE_eq (by simp; omega), gE_eq hk, List.getElem_append_left]
  have b2 : ∀ k, k < l2.length → gE (l1 ++ l2) (l1.length + k) = gE l2 k := fun k hk => by
    rw [gE_eq (by simp; omega), gE_eq hk, List.getElem_append_right (by omega)]
    congr 1
    omega
  have hk : ∀ k, k < (l1 ++ l2).length → k < l1.length ∨ ∃ j, j < l2.length ∧ k = l1.length + j := fun k hk => by
    rw [List.length_append] at hk
    by_cases h : k < l1.length
    · exact .inl h
    · exact .inr ⟨k - l1.length, by omega, by omega⟩
  refine ⟨by rw [List.length_append, List.length_append, h1.len, h2.len], fun k h => ?_, fun k h => ?_, fun k b h e => ?_, fun i j b hi' hj' ei ej => ?_⟩
  · rcases hk k h with q | ⟨j, q, rfl⟩
    · rw [a1 k q, b1 k q]; exact h1.nm k q
    · rw [a2 j q, b2 j q]; exact h2.nm j q
  · rcases hk k h with q | ⟨j, q, rfl⟩
    · rw [a1 k q, b1 k q]; exact own_lo (h1.tn k q) hl1
    · rw [a2 j q, b2 j q]; exact own_lo (h2.tn j q) hl
  · rcases hk k h with q | ⟨j, q, rfl⟩
    · rw [a1 k q] at e
      exact ⟨((h1.tn k q).lt b e).2, (hG k b).1 q e⟩
    · rw [a2 j q] at e
      exact ⟨((h2.tn j q).lt b e).2, (hG j b).2 q e⟩
  · rcases hk i hi' with q | ⟨i, q, rfl⟩
    · rw [a1 i q] at ei
      rcases hk j hj' with p | ⟨j, p, rfl⟩
      · rw [a1 j p] at ej
        exact h1.ap i j b q p ei ej
      · rw [a2 j p] at ej
        have := (h1.thi i b q ei).1
        have := ((h2.tn j p).lt b ej).1
        have := (h2.thi j b p ej).1
        have := ((h1.tn i q).lt b ei).1
        omega
    · rw [a2 i q] at ei
      rcases hk j hj' with p | ⟨j, p, rfl⟩
      · rw [a1 j p] at ej
        have := (h1.thi j b p ej).1
        have := ((h2.tn i q).lt b ei).1
        have := (h2.thi i b q ei).1
        have := ((h1.tn j p).lt b ej).1
        omega
      · rw [a2 j p] at ej
        rw [h2.ap i j b q p ei ej]
theorem OwnT.slv {lo hi g : Nat} {w : World} {t : List (ByteArray × Value)} {l : List En} (h : OwnT lo hi g w t l) : ∀ k, k < t.length → slV (gT t k).2 := fun k hk => by
  obtain ⟨A, c, e⟩ := own_form (h.tn k (by rw [← h.len]; exact hk))
  exact ⟨_, _, _, e⟩
/-- 'append(v, x...)' of two rows of the call's own, the second made behind the first -/
theorem wp_app_E (w : World) {o : Oper} {a : Act} {K : Act → World → Prop} {Q : Exit → Act → World → Prop} (s x : Operand)
    (ho : o.op = .call { callee := .builtin .append, args := #[s, x], argTypes := #[25, 25] })
    (lo hi : Nat) (v : Value) (l1 : List En) (hs : a.eval s = v) (h1 : OwnE lo hi w v l1)
    (lo2 hi2 : Nat) (vx : Value) (l2 : List En) (hx : a.eval x = vx) (h2 : OwnE lo2 hi2 w vx l2) (hd : hi ≤ lo2 ∨ hi2 ≤ lo) (lo' : Nat) (hl1 : lo' ≤ lo) (hl2 : lo' ≤ lo2) (hl : l1.length + l2.length ≤ 3000000) (hbase : lo ≤ w.heap.size) (L : List En) (hL : l1 ++ l2 = L)
    (h : ∀ A c w', OwnE lo' w'.heap.size w' (.slice A L.length c) L → Apart lo hi w w' → K (a.put o.dst (.slice A L.length c)) w') : o.wp Try.prog a w K Q := by
  subst hL
  obtain ⟨g1, t1, ot1, or1, ob1⟩ := h1
  obtain ⟨g2, t2, ot2, or2, ob2⟩ := h2
  have e1 := ot1.len
  have e2 := ot2.len
  refine wp_app_cE w s x ho lo v t1 t2 hs (by rw [e1]; exact or1) vx hx (by rw [e2]; exact Rd.of_own or2) ot2.slv (by omega) hbase ?_
  intro A c w' ow gr at'
  have hlen : (t1 ++ t2).length = (l1 ++ l2).length := by rw [List.length_append, List.length_append, e1, e2]
  rw [hlen] at ow at' ⊢
  have hb : Apart lo hi w w' := World.grownBy.apart gr fun k hk => ⟨(or1.lt k hk).1, (ob1 k hk).2⟩
  have hn1 : ∀ k b, k < l1.length → (gT t1 k).2.ownBlock = some b → v.ownBlock ≠ some b := fun k b hk e e2 => (ot1.thi k b hk e).2 (ob1 b e2).1
  have hn2 : ∀ k b, k < l2.length → (gT t2 k).2.ownBlock = some b → v.ownBlock ≠ some b := fun k b hk e e2 => by
    have := ((ot2.tn k hk).lt b e).1
    have := (ob1 b e2).2
    have := (ot2.thi k b hk e).1
    have := (or1.lt b e2).1
    omega
  have k1 : OwnT lo hi g1 w' t1 l1 := ⟨e1, ot1.nm, fun k hk => own_same (ot1.tn k hk) fun b e => gr.block b ((ot1.tn k hk).lt b e).2 (fun q => hn1 k b hk e q.symm), ot1.thi, ot1.ap⟩
  have k2 : OwnT lo2 hi2 g2 w' t2 l2 := ⟨e2, ot2.nm, fun k hk => own_same (ot2.tn k hk) fun b e => gr.block b ((ot2.tn k hk).lt b e).2 (fun q => hn2 k b hk e q.symm), ot2.thi, ot2.ap⟩
  refine h A c w' ?_ hb
  have ow' := own_lo ow hl1
  cases hv : (Value.slice A (l1 ++ l2).length c).ownBlock with
  | none => exact ⟨w'.heap.size, t1 ++ t2, k1.join k2 hd hl1 hl2 (fun k b => ⟨fun q e => by have := ((k1.tn k q).lt b e).2; omega, fun q e => by have := ((k2.tn k q).lt b e).2; omega⟩), ow', fun b e => by rw [hv] at e; cases e⟩
  | some B =>
    refine ⟨B, t1 ++ t2, k1.join k2 hd hl1 hl2 (fun k b => ⟨fun q e e3 => ?_, fun q e e3 => ?_⟩), ow', fun b e => by rw [hv] at e; cases e; exact ⟨rfl, (ow.lt _ hv).2⟩⟩
    · subst e3
      rcases at' with at' | at'
      · rw [hv] at at'; exact hn1 k b q e at'.symm
      · rw [hv] at at'; cases at'; exact absurd ((ot1.tn k q).lt _ e).2 (by omega)
    · subst e3
      rcases at' with at' | at'
      · rw [hv] at at'; exact hn2 k b q e at'.symm
      · rw [hv] at at'; cases at'; exact absurd ((ot2.tn k q).lt _ e).2 (by omega)
theorem step_app_E (w : World) {ops : Array Oper} {o : Oper} {a : Act} {K : Act → World → Prop} {Q : Exit → Act → World → Prop} {E : Prop} (hgd : o.guard = none) (s x : Operand)
    (ho : o.op = .call { callee := .builtin .append, args := #[s, x], argTypes := #[25, 25] })
    (lo hi : Nat) (v : Value) (l1 : List En) (hs : a.eval s = v) (h1 : OwnE lo hi w v l1)
    (lo2 hi2 : Nat) (vx : Value) (l2 : List En) (hx : a.eval x = vx) (h2 : OwnE lo2 hi2 w vx l2) (hd : hi ≤ lo2 ∨ hi2 ≤ lo) (lo' : Nat) (hl1 : lo' ≤ lo) (hl2 : lo' ≤ lo2) (hl : l1.length + l2.length ≤ 3000000) (hbase : lo ≤ w.heap.size) (L : List En) (hL : l1 ++ l2 = L)
    (h : ∀ A c w', OwnE lo' w'.heap.size w' (.slice A L.length c) L → Apart lo hi w w' → K (a.put o.dst (.slice A L.length c)) w') :
    if Region.wanted o (yielded ops a.tmps) = true then Oper.wp Try.prog o a w K Q else E := by
  have hw : Region.wanted o (yielded ops a.tmps) = true := by simp [Region.wanted, hgd]
  rw [if_pos hw]
  exact wp_app_E w s x ho lo hi v l1 hs h1 lo2 hi2 vx l2 hx h2 hd lo' hl1 hl2 hl hbase L hL h
theorem wpList_app_E (w : World) {ops : Array Oper} {rest : List Oper} {o : Oper} {a : Act} {Q : Exit → Act → World → Prop} (hgd : o.guard = none) (s x : Operand)
    (ho : o.op = .call { callee := .builtin .append, args := #[s, x], argTypes := #[25, 25] })
    (lo hi : Nat) (v : Value) (l1 : List En) (hs : a.eval s = v) (h1 : OwnE lo hi w v l1)
    (lo2 hi2 : Nat) (vx : Value) (l2 : List En) (hx : a.eval x = vx) (h2 : OwnE lo2 hi2 w vx l2) (hd : hi ≤ lo2 ∨ hi2 ≤ lo) (lo' : Nat) (hl1 : lo' ≤ lo) (hl2 : lo' ≤ lo2) (hl : l1.length + l2.length ≤ 3000000) (hbase : lo ≤ w.heap.size) (L : List En) (hL : l1 ++ l2 = L)
    (h : ∀ A c w', OwnE lo' w'.heap.size w' (.slice A L.length c) L → Apart lo hi w w' → wpList Try.prog ops Q rest (a.put o.dst (.slice A L.length c)) w') : wpList Try.prog ops Q (o :: rest) a w :=
  wpList_plain hgd fun _ hK => wp_app_E w s x ho lo hi v l1 hs h1 lo2 hi2 vx l2 hx h2 hd lo' hl1 hl2 hl hbase L hL fun A c w' h3 h4 => hK _ _ (h A c w' h3 h4)
/-- one entry in a block of its own: its tune is the call's own -/
theorem OwnE.one {lo : Nat} {w : World} {s : ByteArray} {v : Value} {m : List (Int × Int)} (h : w.ownsRow lo 73 2 v m.length (cN m)) (hlo : lo ≤ w.heap.size) : OwnE lo (w.heap.size + 1) (w.alloc (.cells #[.string s, v] 41)) (.slice (some ⟨w.heap.size, 0, none⟩) 1 1) [(s, m)] := by
  have o := (OwnT.nil lo lo w.heap.size w).snoc (hz := w.heap.size) (s := s) (m := m) h (fun b e => by have := h.lt b e; omega) hlo
  refine ⟨w.heap.size, [(s, v)], (o.bl (bl_alloc (Below.refl _ _) _)).hig (by simp), ?_, fun b e => by simp [Value.ownBlock] at e; omega⟩
  exact World.ownsRow_lit w #[.string s, v] 1 hlo (by unfold maxLen; omega) rfl
end Go.Proofs.Ytighmoedkknkoaa
