/- PutEntry of the reference; sizes up to 2^20. -/
import Derived.Test.YtighmoedkknkoaaDropEntry0
import Derived.Test.YtighmoedkknkoaaPut0
namespace Go.Proofs.Ytighmoedkknkoaa
open Go.RowKit

/-- 'append(v, y)', y in a block of its own -/
theorem wp_app_c1 (w : World) {o : Oper} {a : Act} {K : Act → World → Prop} {Q : Exit → Act → World → Prop} (s x : Operand)
    (ho : o.op = .call { callee := .builtin .append, args := #[s, x], argTypes := #[25, 25] })
    (lo : Nat) (v : Value) (t1 : List (ByteArray × Value)) (hs : a.eval s = v) (hown : w.ownsRow lo 41 2 v t1.length (cE t1))
    (g : Nat) (y : ByteArray × Value) (hx : a.eval x = .slice (some ⟨g, 0, none⟩) 1 1) (hc0 : w.cell? ⟨g, 0, none⟩ = some (.string y.1)) (hc1 : w.cell? ⟨g, 1, none⟩ = some y.2) (hy : slV y.2) (hl : t1.length ≤ 2900000) (hbase : lo ≤ w.heap.size) (L : List (ByteArray × Value)) (hL : t1 ++ [y] = L)
    (h : ∀ A c w', w'.ownsRow lo 41 2 (.slice A L.length c) L.length (cE L) → w.grownBy w' v.ownBlock → ((Value.slice A L.length c).ownBlock = v.ownBlock ∨ (Value.slice A L.length c).ownBlock = some w.heap.size) → K (a.put o.dst (.slice A L.length c)) w') : o.wp Try.prog a w K Q := by
  subst hL
  have hg := World.block_lt_of_cell? w _ hc0
  have hy' : ∀ k, k < [y].length → slV (gT [y] k).2 := fun k hk => by
    rw [List.length_singleton] at hk
    obtain rfl : k = 0 := by omega
    exact hy
  refine wp_app_cE w s x ho lo v t1 [y] hs hown _ hx ⟨rfl, _, _, rfl, Nat.le_refl _, by unfold maxLen; simp, fun h => by simp at h, fun _ => ⟨g, 0, rfl, hg, fun j u hu => ?_⟩⟩ hy' (by simp; omega) hbase h
  match j, hu with
  | 0, hu => simp [cE] at hu; subst hu; simpa using hc0
  | 1, hu => simp [cE] at hu; subst hu; simpa using hc1
theorem step_app_c1 (w : World) {ops : Array Oper} {o : Oper} {a : Act} {K : Act → World → Prop} {Q : Exit → Act → World → Prop} {E : Prop} (hgd : o.guard = none) (s x : Operand)
    (ho : o.op = .call { callee := .builtin .append, args := #[s, x], argTypes := #[25, 25] })
    (lo : Nat) (v : Value) (t1 : List (ByteArray × Value)) (hs : a.eval s = v) (hown : w.ownsRow lo 41 2 v t1.length (cE t1))
    (g : Nat) (y : ByteArray × Value) (hx : a.eval x = .slice (some ⟨g, 0, none⟩) 1 1) (hc0 : w.cell? ⟨g, 0, none⟩ = some (.string y.1)) (hc1 : w.cell? ⟨g, 1, none⟩ = some y.2) (hy : slV y.2) (hl : t1.length ≤ 2900000) (hbase : lo ≤ w.heap.size) (L : List (ByteArray × Value)) (hL : t1 ++ [y] = L)
    (h : ∀ A c w', w'.ownsRow lo 41 2 (.slice A L.length c) L.length (cE L) → w.grownBy w' v.ownBlock → ((Value.slice A L.length c).ownBlock = v.ownBlock ∨ (Value.slice A L.length c).ownBlock = some w.heap.size) → K (a.put o.dst (.slice A L.length c)) w') :
    if Region.wanted o (yielded ops a.tmps) = true then Oper.wp Try.prog o a w K Q else E := by
  have hw : Region.wanted o (yielded ops a.tmps) = true := by simp [Region.wanted, hgd]
  rw [if_pos hw]
  exact wp_app_c1 w s x ho lo v t1 hs hown g y hx hc0 hc1 hy hl hbase L hL h
theorem wpList_app_c1 (w : World) {ops : Array Oper} {rest : List Oper} {o : Oper} {a : Act} {Q : Exit → Act → World → Prop} (hgd : o.guard = none) (s x : Operand)
    (ho : o.op = .call { callee := .builtin .append, args := #[s, x], argTypes := #[25, 25] })
    (lo : Nat) (v : Value) (t1 : List (ByteArray × Value)) (hs : a.eval s = v) (hown : w.ownsRow lo 41 2 v t1.length (cE t1))
    (g : Nat) (y : ByteArray × Value) (hx : a.eval x = .slice (some ⟨g, 0, none⟩) 1 1) (hc0 : w.cell? ⟨g, 0, none⟩ = some (.string y.1)) (hc1 : w.cell? ⟨g, 1, none⟩ = some y.2) (hy : slV y.2) (hl : t1.length ≤ 2900000) (hbase : lo ≤ w.heap.size) (L : List (ByteArray × Value)) (hL : t1 ++ [y] = L)
    (h : ∀ A c w', w'.ownsRow lo 41 2 (.slice A L.length c) L.length (cE L) → w.grownBy w' v.ownBlock → ((Value.slice A L.length c).ownBlock = v.ownBlock ∨ (Value.slice A L.length c).ownBlock = some w.heap.size) → wpList Try.prog ops Q rest (a.put o.dst (.slice A L.length c)) w') : wpList Try.prog ops Q (o :: rest) a w :=
  wpList_plain hgd fun _ hK => wp_app_c1 w s x ho lo v t1 hs hown g y hx hc0 hc1 hy hl hbase L hL fun A c w' h2 h3 h4 => hK _ _ (h A c w' h2 h3 h4)

/-- the copied list (t, in vo), and the row q that grows -/
structure PutR (w0 lo hi g : Nat) (wr : World) (t : List (ByteArray × Value)) (l : List En) (vo q : Value) (To : List (ByteArray × Value)) : Prop where
  ot : OwnT lo hi g wr t l
  ro : wr.ownsRow lo 41 2 vo l.length (cE t)
  vg : ∀ b, vo.ownBlock = some b → b = g ∧ b < hi
  rq : wr.ownsRow w0 41 2 q To.length (cE To)
  qb : ∀ b, q.ownBlock = some b → b < lo ∨ hi ≤ b
  hz : hi ≤ wr.heap.size
  hw : w0 ≤ lo
/-- the new entry's tune -/
structure PutX (w0 hi : Nat) (wr : World) (q vx : Value) (m : List (Int × Int)) : Prop where
  ox : wr.ownsRow w0 73 2 vx m.length (cN m)
  xb : ∀ b, vx.ownBlock = some b → hi ≤ b ∧ q.ownBlock ≠ some b
section
variable {w0 lo hi g : Nat} {wr w2 : World} {t : List (ByteArray × Value)} {l : List En} {vo q q' vx : Value} {To L : List (ByteArray × Value)} {m : List (Int × Int)}
theorem PutR.bl (h : PutR w0 lo hi g wr t l vo q To) (b : Below wr.heap.size wr w2) : PutR w0 lo hi g w2 t l vo q To :=
  ⟨h.ot.bl b, own_bl h.ro b, h.vg, own_bl h.rq b, h.qb, Nat.le_trans h.hz b.size, h.hw⟩
theorem PutX.bl (h : PutX w0 hi wr q vx m) (b : Below wr.heap.size wr w2) : PutX w0 hi w2 q vx m := ⟨own_bl h.ox b, h.xb⟩
theorem PutR.app (h : PutR w0 lo hi g wr t l vo q To) (ow : w2.ownsRow w0 41 2 q' L.length (cE L)) (gr : wr.grownBy w2 q.ownBlock) (at' : q'.ownBlock = q.ownBlock ∨ q'.ownBlock = some wr.heap.size) : PutR w0 lo hi g w2 t l vo q' L :=
  ⟨h.ot.same fun k h1 h2 h3 _ => gr.block k h3 (fun e => by have := h.qb k e.symm; omega), own_same h.ro fun b e => gr.block b (h.ro.lt b e).2 (fun e2 => by have := h.qb b e2.symm; have := (h.ro.lt b e).1; have := (h.vg b e).2; omega), h.vg, ow, fun b e => by
    rcases at' with a | a
    · rw [a] at e; exact h.qb b e
    · rw [a] at e; cases e; exact .inr h.hz, Nat.le_trans h.hz gr.size, h.hw⟩
theorem PutX.app (h : PutX w0 hi wr q vx m) (gr : wr.grownBy w2 q.ownBlock) (at' : q'.ownBlock = q.ownBlock ∨ q'.ownBlock = some wr.heap.size) : PutX w0 hi w2 q' vx m :=
  ⟨own_same h.ox fun b e => gr.block b (h.ox.lt b e).2 (fun e2 => (h.xb b e).2 e2.symm), fun b e => ⟨(h.xb b e).1, fun e2 => by
    rcases at' with a | a
    · rw [a] at e2; exact (h.xb b e).2 e2
    · rw [a] at e2; cases e2; exact absurd (h.ox.lt _ e).2 (by omega)⟩⟩
theorem PutR.below (h : PutR w0 lo hi g wr t l vo q To) (gr : wr.grownBy w2 q.ownBlock) {w : World} (hb : Below w0 w wr) (hs : w0 ≤ w.heap.size) : Below w0 w w2 :=
  hb.grown gr (by have := hb.size; omega) (fun k e => (h.rq.lt k e).1)
/-- the list with the new entry in it -/
theorem OwnT.ins {p : Nat} {s : ByteArray} (h : OwnT lo hi g wr t l) (hp : p ≤ l.length) (hlo : w0 ≤ lo) (ho : wr.ownsRow w0 73 2 vx m.length (cN m)) (hv : ∀ b, vx.ownBlock = some b → hi ≤ b) {G : Nat} (hG : ∀ b, (∃ k, k < l.length ∧ (gT t k).2.ownBlock = some b) ∨ vx.ownBlock = some b → b ≠ G) : OwnT w0 wr.heap.size G wr (insL t p (s, vx)) (insL l p (s, m)) := by
  have e1 : ∀ j, gT (insL t p (s, vx)) j = if j < p then gT t j else if j = p then (s, vx) else gT t (j - 1) := fun j => insL_get (by rw [h.len]; exact hp) _ _ j
  have e2 : ∀ j, gE (insL l p (s, m)) j = if j < p then gE l j else if j = p then (s, m) else gE l (j - 1) := fun j => insL_get hp _ _ j
  have hk : ∀ j, j < (insL l p (s, m)).length → (j < p ∧ gT (insL t p (s, vx)) j = gT t j ∧ gE (insL l p (s, m)) j = gE l j ∧ j < l.length) ∨ (j = p ∧ gT (insL t p (s, vx)) j = (s, vx) ∧ gE (insL l p (s, m)) j = (s, m)) ∨ (p < j ∧ gT (insL t p (s, vx)) j = gT t (j - 1) ∧ gE (insL l p (s, m)) j = gE l (j - 1) ∧ j - 1 < l.length) := fun j hj => by
    rw [insL_len] at hj
    rw [e1, e2]
    by_cases h1 : j < p
    · exact .inl ⟨h1, by rw [if_pos h1], by rw [if_pos h1], by omega⟩
    · by_cases h2 : j = p
      · exact .inr (.inl ⟨h2, by rw [if_neg h1, if_pos h2], by rw [if_neg h1, if_pos h2]⟩)
      · exact .inr (.inr ⟨by omega, by rw [if_neg h1, if_neg h2], by rw [if_neg h1, if_neg h2], by omega⟩)
  refine ⟨by rw [insL_len, insL_len, h.len], fun j hj => ?_, fun j hj => ?_, fun j b hj e => ?_, fun i j b hi' hj e e' => ?_⟩
  · rcases hk j hj with ⟨_, a, b, c⟩ | ⟨_, a, b⟩ | ⟨_, a, b, c⟩
    · rw [a, b]; exact h.nm j c
    · rw [a, b]
    · rw [a, b]; exact h.nm _ c
  · rcases hk j hj with ⟨_, a, b, c⟩ | ⟨_, a, b⟩ | ⟨_, a, b, c⟩
    · rw [a, b]; exact own_lo (h.tn j c) hlo
    · rw [a, b]; exact ho
    · rw [a, b]; exact own_lo (h.tn _ c) hlo
  · rcases hk j hj with ⟨_, a, _, c⟩ | ⟨_, a, _⟩ | ⟨_, a, _, c⟩
    · rw [a] at e; exact ⟨((h.tn j c).lt b e).2, hG b (.inl ⟨j, c, e⟩)⟩
    · rw [a] at e; exact ⟨(ho.lt b e).2, hG b (.inr e)⟩
    · rw [a] at e; exact ⟨((h.tn _ c).lt b e).2, hG b (.inl ⟨_, c, e⟩)⟩
  · rcases hk i hi' with ⟨p1, a, _, c⟩ | ⟨p1, a, _⟩ | ⟨p1, a, _, c⟩ <;> rcases hk j hj with ⟨p2, a', _, c'⟩ | ⟨p2, a', _⟩ | ⟨p2, a', _, c'⟩ <;> rw [a] at e <;> rw [a'] at e'
    · exact h.ap i j b c c' e e'
    · have := (h.thi i b c e).1; have := hv b e'; omega
    · have := h.ap i (j - 1) b c c' e e'; omega
    · have := (h.thi j b c' e').1; have := hv b e; omega
    · omega
    · have := (h.thi _ b c' e').1; have := hv b e; omega
    · have := h.ap (i - 1) j b c c' e e'; omega
    · have := (h.thi _ b c e).1; have := hv b e'; omega
    · have := h.ap (i - 1) (j - 1) b c c' e e'; omega
end
theorem insL_take {α : Type} {l : List α} {p k : Nat} {x : α} (hp : p ≤ k) (hk : k < l.length) : insL (l.take k) p x ++ [l[k]] = insL (l.take (k + 1)) p x := by
  have h1 : l.take (k + 1) = l.take k ++ [l[k]] := List.take_succ_eq_append_getElem hk
  have h2 : (l.take k).length = k := by rw [List.length_take]; omega
  rw [insL, insL, h1, List.take_append_of_le_length (by omega), List.drop_append_of_le_length (by omega)]
  simp only [List.append_assoc]
theorem insL_end {α : Type} (l : List α) (x : α) : insL l l.length x = l ++ [x] := by rw [insL, List.take_length, List.drop_length, List.append_nil]
theorem insL_at {α : Type} {l : List α} {k : Nat} (hk : k ≤ l.length) (x : α) : insL (l.take k) k x = l.take k ++ [x] := by
  have h2 : (l.take k).length = k := by rw [List.length_take]; omega
  have := insL_end (l.take k) x
  rwa [h2] at this
theorem PutR.fin {w0 lo hi g p : Nat} {wr : World} {t : List (ByteArray × Value)} {l : List En} {vo q vx : Value} {s : ByteArray} {m : List (Int × Int)} {To : List (ByteArray × Value)} (h : PutR w0 lo hi g wr t l vo q To) (hx : PutX w0 hi wr q vx m) (hT : To = insL t p (s, vx)) (hp : p ≤ l.length) : OwnE w0 wr.heap.size wr q (insL l p (s, m)) := by
  have hl : To.length = (insL l p (s, m)).length := by rw [hT, insL_len, insL_len, h.ot.len]
  have rq := h.rq
  rw [hl, hT] at rq
  have hv : ∀ b, vx.ownBlock = some b → hi ≤ b := fun b e => (hx.xb b e).1
  cases e : q.ownBlock with
  | none => exact ⟨wr.heap.size, _, h.ot.ins hp h.hw hx.ox hv (fun b hb => by
      rcases hb with ⟨k, hk, hb⟩ | hb
      · have := ((h.ot.tn k hk).lt b hb).2; omega
      · have := (hx.ox.lt b hb).2; omega), rq, fun b eb => by rw [e] at eb; cases eb⟩
  | some B => exact ⟨B, _, h.ot.ins hp h.hw hx.ox hv (fun b hb => by
      rcases hb with ⟨k, hk, hb⟩ | hb
      · have h1 := ((h.ot.tn k hk).lt b hb).1
        have h2 := (h.ot.thi k b hk hb).1
        have h3 := h.qb B e
        omega
      · have := (hx.xb b hb).2
        rw [e] at this
        exact fun q => this (by rw [q])), rq, fun b eb => by rw [e] at eb; cases eb; exact ⟨rfl, (rq.lt _ e).2⟩⟩
set_option maxHeartbeats 6400000 in
set_option maxRecDepth 100000 in
theorem putS_any (v : Value) (s : ByteArray) (ve : Value) (m : List (Int × Int)) (l : List En) (w : World) (h1 : RdE w v l) (h2 : RdN w ve m) (hl : l.length + szE l + (s.size + m.length) ≤ 1048576) :
    Calls Try.prog 21 #[v, .agg #[.string s, ve]] w (NewEB (putL l (s, m)) (putQ l (s, m)) w) := by
  obtain ⟨A1, c1, rfl, hc1, hm⟩ := h1.form
  obtain ⟨Ae, ce, rfl, _, _⟩ := h2.form
  obtain ⟨me, hme⟩ : ∃ n, m.length = n := ⟨_, rfl⟩
  rw [hme] at h2
  rw [hme]
  have ba := bl_alloc (bl_alloc (Below.refl _ w) (.cells #[.string s, .slice Ae me ce] 41)) (.cells #[] 41)
  have r1 := h1.bl ba
  have r2 := h2.bl ba
  have q0 : ((w.alloc (.cells #[.string s, .slice Ae me ce] 41)).alloc (.cells #[] 41)).cell? ⟨w.heap.size, 0, none⟩ = some (.string s) := by simp [go_sem]
  have q1 : ((w.alloc (.cells #[.string s, .slice Ae me ce] 41)).alloc (.cells #[] 41)).cell? ⟨w.heap.size, 1, none⟩ = some (.slice Ae me ce) := by simp [go_sem]
  have on : ((w.alloc (.cells #[.string s, .slice Ae me ce] 41)).alloc (.cells #[] 41)).ownsRow (w.heap.size + 1) 41 2 (.slice (some ⟨w.heap.size + 1, 0, none⟩) 0 0) 0 [] := own_new0 (Nat.le_refl _) (by simp)
  have hzz : ((w.alloc (.cells #[.string s, .slice Ae me ce] 41)).alloc (.cells #[] 41)).heap.size = w.heap.size + 2 := by simp
  have hspec := put_spec l (s, m)
  have hP0 : posS l s ≤ l.length := List.findIdx_le_length
  have hPn : ∀ k, k < posS l s → Op.bytesLess s.toList (gE l k).1.toList = false := fun k hk => idx_no (P := fun x : En => ltS s x.1) (l := l) (k := k) hk
  have hPy : posS l s < l.length → Op.bytesLess s.toList (gE l (posS l s)).1.toList = true := fun h => idx_yes (P := fun x : En => ltS s x.1) (l := l) h
  have hLL : putL l (s, m) = if putQ l (s, m) then insL l (posS l s) (s, m) else l := by
    cases hq : putQ l (s, m)
    · rw [putL, hq]; rfl
    · rw [putL, hq, hspec.2 hq]
  have hsp := hspec.1
  simp only at hsp
  clear hspec
  generalize putQ l (s, m) = Q at *
  generalize putL l (s, m) = L at *
  obtain ⟨p, hp⟩ : ∃ P, posS l s = P := ⟨_, rfl⟩
  rw [hp] at hP0 hPn hPy hLL hsp
  have hsz := szE_ins l p (s, m)
  have hln := insL_len l p (s, m)
  simp only at hsz
  have cs := fun W v h => catalogS_ok v l W h (by omega)
  have cn := fun W v h => catalogS_ok v (insL l p (s, m)) W h (by omega)
  have cp := fun W v h => copyCatS_any v l W h (by omega)
  have hlN : (insL l p (s, m)).length = l.length + 1 := insL_len _ _ _
  obtain ⟨cb, hcb⟩ : ∃ b, catB l = b := ⟨_, rfl⟩
  obtain ⟨nb, hnb⟩ : ∃ b, catB (insL l p (s, m)) = b := ⟨_, rfl⟩
  rw [hcb] at cs hsp
  rw [hnb] at cn hsp
  have HSP := Lib.hid hsp
  have HLL := Lib.hid hLL
  have CS := Lib.hid cs
  have CN := Lib.hid cn
  have CP := Lib.hid cp
  have HPN := Lib.hid hPn
  have HPY := Lib.hid hPy
  have HME := Lib.hid hme
  have HLN := Lib.hid hlN
  have hll : l.length ≤ 1048576 := by omega
  have hml : m.length ≤ 1048576 := by omega
  have h1w := h1
  have h2w := h2
  clear hsp hLL cs cn cp hPn hPy hp hsz hln hcb hnb hlN hme h1 h2
  go_enter Try.func21, Try.ntmps21
  go_wp2_with fail
  refine (CP.out _ _ r1).mono ?_
  rintro e w2 ⟨A2, c2, rfl, o2, b2⟩
  obtain ⟨g, t, ot, ro, vg⟩ := o2
  replace q0 := (b2.cell (p := ⟨w.heap.size, 0, none⟩) (by simp; omega)).trans q0
  replace q1 := (b2.cell (p := ⟨w.heap.size, 1, none⟩) (by simp; omega)).trans q1
  replace on := own_bl on b2
  replace r2 := r2.bl b2
  have bel := bl_to ba b2
  have sz2 : w.heap.size + 2 ≤ w2.heap.size := by have := b2.size; simp at this; omega
  have htl := ot.len
  have pr : PutR (w.heap.size + 1) ((w.alloc (.cells #[.string s, .slice Ae me ce] 41)).alloc (.cells #[] 41)).heap.size w2.heap.size g w2 t l (.slice A2 l.length c2) (.slice (some ⟨w.heap.size + 1, 0, none⟩) 0 0) [] :=
    ⟨ot, ro, vg, on, fun b e => by simp [Value.ownBlock] at e; rw [hzz]; omega, Nat.le_refl _, by rw [hzz]; omega⟩
  generalize ((w.alloc (.cells #[.string s, .slice Ae me ce] 41)).alloc (.cells #[] 41)).heap.size = lo at *
  obtain ⟨hi, hhi⟩ : ∃ h, w2.heap.size = h := ⟨_, rfl⟩
  rw [hhi] at pr
  have HHI := Lib.hid hhi
  clear ot ro vg on r1 b2 ba hhi
  go_wp2
  go_loopw [6, 7, 9] (fun q u i wr => ∃ (k : Nat) (To : List (ByteArray × Value)), k ≤ l.length ∧ i = .int .i64 k ∧ u = .bool (decide (p < k)) ∧ PutR (w.heap.size + 1) lo hi g wr t l (.slice A2 l.length c2) q To ∧ Below (w.heap.size + 1) w2 wr ∧ ((k ≤ p ∧ To = t.take k) ∨ (p < k ∧ ∃ vx, slV vx ∧ PutX (w.heap.size + 1) hi wr q vx m ∧ To = insL (t.take k) p (s, vx)))) (fun _ _ i _ => l.length - (intOf i).toNat)
  case atStart => exact ⟨0, [], Nat.zero_le _, rfl, by simp, pr, Below.refl _ _, .inl ⟨Nat.zero_le _, by simp⟩⟩
  case round =>
    clear pr
    obtain ⟨k, To, hk, rfl, rfl, pr, bel2, hTo⟩ := hrel
    obtain ⟨A3, c3, hq3⟩ := own_form pr.rq
    subst hq3
    have q0 := (bel2.cell (p := ⟨w.heap.size, 0, none⟩) (Nat.lt_succ_self _)).trans q0
    have q1 := (bel2.cell (p := ⟨w.heap.size, 1, none⟩) (Nat.lt_succ_self _)).trans q1
    have q9 : w.heap.size < wr.heap.size := by have := bel2.size; omega
    have hTl : To.length ≤ 1048577 := by
      rcases hTo with ⟨_, rfl⟩ | ⟨_, vx, _, _, rfl⟩
      · rw [List.length_take]; omega
      · rw [insL_len, List.length_take]; omega
    have hlen : To.length ≤ 2900000 := by omega
    by_cases hlt : k < l.length
    · have hlt' : (k : Int) < (l.length : Int) := by omega
      have k0 : (0 : Int) ≤ (k : Int) := by omega
      have htk : t.take (k + 1) = t.take k ++ [gT t k] := by rw [List.take_succ_eq_append_getElem (by omega), gT_eq (by omega)]
      have hAG : ∃ G, A2 = some ⟨G, 0, none⟩ := by
        rcases pr.ro.2 with ⟨hv, _⟩ | ⟨G, cap, cur, hv, _⟩
        · simp at hv; omega
        · simp only [Value.slice.injEq] at hv; exact ⟨G, hv.1⟩
      obtain ⟨G, rfl⟩ := hAG
      obtain ⟨At, ct, hvt⟩ := own_form (pr.ot.tn k hlt)
      obtain ⟨nm, hnm⟩ : ∃ nm, (gE l k).1 = nm := ⟨_, rfl⟩
      obtain ⟨nt, hnt⟩ : ∃ n, (gE l k).2.length = n := ⟨_, rfl⟩
      rw [hnt] at hvt
      have hgt : gT t k = (nm, .slice At nt ct) := Prod.ext ((pr.ot.nm k hlt).trans hnm) hvt
      have e0 : wr.cell? ⟨G, k * 2, none⟩ = some (.string nm) := (pr.ro.cellAt _ (by omega)).trans ((cE_get0 (by omega)).trans (by rw [hgt]))
      have e1 : wr.cell? ⟨G, k * 2 + 1, none⟩ = some (.slice At nt ct) := (pr.ro.cellAt _ (by omega)).trans ((cE_get1 (by omega)).trans (by rw [hgt]))
      rw [hgt] at htk
      have hGl := (pr.ro.lt G rfl).2
      by_cases hput : p < k
      · obtain ⟨_, vx, hsv, px, hTe⟩ : p < k ∧ ∃ vx, slV vx ∧ PutX (w.heap.size + 1) hi wr _ vx m ∧ To = insL (t.take k) p (s, vx) := by
          rcases hTo with ⟨h, _⟩ | h
          · omega
          · exact h
        have hdp : decide (p < k) = true := by simpa using hput
        have hdp2 : decide (p < k + 1) = true := by simp; omega
        have hT2 : Hid (To ++ [(nm, .slice At nt ct)] = insL (t.take (k + 1)) p (s, vx)) := by
          show _ = _
          rw [hTe, ← insL_take (by omega) (by omega)]
          congr 2
          rw [← gT_eq (by omega), hgt]
        have HD2 := Lib.hid hdp2
        obtain ⟨T5, hT5⟩ : ∃ T, To ++ [(nm, .slice At nt ct)] = T := ⟨_, rfl⟩
        have HT5 := Lib.hid hT5
        rw [hdp]
        clear hTo hTe hgt hnm hnt hvt htk hdp hdp2 hT5
        go_wp2
        go_big_quiet (fail)
        replace pr := pr.bl (bl_drewN (Below.refl _ _) nq)
        replace px := px.bl (bl_drewN (Below.refl _ _) nq)
        replace bel2 : Below (w.heap.size + 1) w2 (wr.drewN nq) := ⟨bel2.os, bel2.tape, bel2.output, bel2.size, bel2.block⟩
        replace e0 : (wr.drewN nq).cell? ⟨G, k * 2, none⟩ = some (.string nm) := e0
        replace e1 : (wr.drewN nq).cell? ⟨G, k * 2 + 1, none⟩ = some (.slice At nt ct) := e1
        replace q9 : w.heap.size < (wr.drewN nq).heap.size := q9
        clear q0 q1
        generalize wr.drewN nq = w3 at *
        go_wp2_with (at_builtin; refine wpList_app_c1 _ rfl _ _ rfl (w.heap.size + 1) _ To rfl (pr.bl (bl_alloc (Below.refl _ _) _)).rq w3.heap.size (nm, .slice At nt ct) rfl (by simp [go_sem]) (by simp [go_sem]) ⟨_, _, _, rfl⟩ hlen (by simp; omega) T5 HT5.out ?_; intro A4 c4 w4 o4 gr4 at4)
        have pr4 := (pr.bl (bl_alloc (Below.refl _ _) _)).app o4 gr4 at4
        have px4 := (px.bl (bl_alloc (Below.refl _ _) _)).app gr4 at4
        have bel4 : Below (w.heap.size + 1) w2 w4 := (pr.bl (bl_alloc (Below.refl _ _) _)).below gr4 (bel2.alloc (by omega) _) (by omega)
        go_roundw
        case rel => exact ⟨k + 1, T5, by omega, by go_num, by rw [HD2.out], pr4, bel4, .inr ⟨by omega, vx, hsv, px4, by rw [← HT5.out, hT2.out]⟩⟩
        case measure => simp [intOf]; omega
      · have hTe : To = t.take k := by
          rcases hTo with ⟨_, h⟩ | ⟨h, _⟩
          · exact h
          · omega
        have hdp : decide (p < k) = false := by simpa using hput
        rw [hdp]
        by_cases hkp : k < p
        · have hb : Op.bytesLess s.toList nm.toList = false := by rw [← hnm]; exact HPN.out k hkp
          have hdp2 : decide (p < k + 1) = false := by simp; omega
          have hT2 : Hid (To ++ [(nm, .slice At nt ct)] = t.take (k + 1)) := by show _ = _; rw [hTe, htk]
          have HD2 := Lib.hid hdp2
          obtain ⟨T5, hT5⟩ : ∃ T, To ++ [(nm, .slice At nt ct)] = T := ⟨_, rfl⟩
          have HT5 := Lib.hid hT5
          clear hTo hTe hgt hnm hnt hvt htk hdp hdp2 hT5
          go_wp2
          go_big_quiet (fail)
          replace pr := pr.bl (bl_drewN (Below.refl _ _) nq)
          replace bel2 : Below (w.heap.size + 1) w2 (wr.drewN nq) := ⟨bel2.os, bel2.tape, bel2.output, bel2.size, bel2.block⟩
          replace e0 : (wr.drewN nq).cell? ⟨G, k * 2, none⟩ = some (.string nm) := e0
          replace e1 : (wr.drewN nq).cell? ⟨G, k * 2 + 1, none⟩ = some (.slice At nt ct) := e1
          replace q9 : w.heap.size < (wr.drewN nq).heap.size := q9
          clear q0 q1 hb
          generalize wr.drewN nq = w3 at *
          go_wp2_with (at_builtin; refine wpList_app_c1 _ rfl _ _ rfl (w.heap.size + 1) _ To rfl (pr.bl (bl_alloc (Below.refl _ _) _)).rq w3.heap.size (nm, .slice At nt ct) rfl (by simp [go_sem]) (by simp [go_sem]) ⟨_, _, _, rfl⟩ hlen (by simp; omega) T5 HT5.out ?_; intro A4 c4 w4 o4 gr4 at4)
          have pr4 := (pr.bl (bl_alloc (Below.refl _ _) _)).app o4 gr4 at4
          have bel4 : Below (w.heap.size + 1) w2 w4 := (pr.bl (bl_alloc (Below.refl _ _) _)).below gr4 (bel2.alloc (by omega) _) (by omega)
          go_roundw
          case rel => exact ⟨k + 1, T5, by omega, by go_num, by rw [HD2.out], pr4, bel4, .inl ⟨by omega, by rw [← HT5.out, hT2.out]⟩⟩
          case measure => simp [intOf]; omega
        · obtain rfl : k = p := by omega
          have hb : Op.bytesLess s.toList nm.toList = true := by rw [← hnm]; exact HPY.out hlt
          have hT2 : Hid (∀ x, To ++ [x] ++ [(nm, .slice At nt ct)] = insL (t.take (k + 1)) k x) := fun x => by
            rw [hTe, ← insL_at (by omega), ← insL_take (Nat.le_refl _) (by omega)]
            congr 2
            rw [← gT_eq (by omega), hgt]
          have HG := Lib.hid hgt
          clear hTo hTe hgt hnm hnt hvt htk hdp
          go_wp2
          go_big_quiet (fail)
          replace pr := pr.bl (bl_drewN (Below.refl _ _) nq)
          replace bel2 : Below (w.heap.size + 1) w2 (wr.drewN nq) := ⟨bel2.os, bel2.tape, bel2.output, bel2.size, bel2.block⟩
          replace e0 : (wr.drewN nq).cell? ⟨G, k * 2, none⟩ = some (.string nm) := e0
          replace e1 : (wr.drewN nq).cell? ⟨G, k * 2 + 1, none⟩ = some (.slice At nt ct) := e1
          replace q9 : w.heap.size < (wr.drewN nq).heap.size := q9
          replace q0 : (wr.drewN nq).cell? ⟨w.heap.size, 0, none⟩ = some (.string s) := q0
          replace q1 : (wr.drewN nq).cell? ⟨w.heap.size, 1, none⟩ = some (.slice Ae me ce) := q1
          replace hGl : G < (wr.drewN nq).heap.size := hGl
          clear hb
          generalize wr.drewN nq = w3 at *
          go_upto_region 8 with (fail)
          have belw : Below w.heap.size w w3 := bel.trans (bel2.mono (by omega))
          have rN := h2w.bl belw
          have sz3 := pr.hz
          go_region_held3 (fun w' => w'.cell? ⟨w.heap.size, 0, none⟩ = some (.string s) ∧ w'.cell? ⟨w.heap.size, 1, none⟩ = some (.slice Ae me ce))
          (first | exact ⟨x0, x1⟩ | exact ⟨u0, u1⟩ | go_keep)
          (first
            | (refine step_is_append (.tmp 31) (.tmp 38) _ rfl ?_; obtain ⟨T1, hT1⟩ : ∃ T, To ++ [(s, .slice Aa m.length ca)] = T := ⟨_, rfl⟩; have HT1 := Lib.hid hT1; clear hT1; refine step_app_c1 _ (by rfl) _ _ (by rfl) (w.heap.size + 1) _ To (by rfl) prA.rq wA.heap.size (s, .slice Aa m.length ca) (by rfl) (by simp [go_sem]) (by simp [go_sem]) ⟨_, _, _, rfl⟩ hlen (by first | exact Nat.le_refl _ | omega | (simp; done) | (simp; omega)) T1 HT1.out ?_; intro A4 c4 w5 o5 gr5 at5; have x0 := (cell_grown gr5 (B := w.heap.size) (by simp; omega) (fun q e e2 => nbA q e e2) 0).trans ((World.cell?_alloc_lt wA _ ⟨w.heap.size, 0, none⟩ (by show w.heap.size < _; omega)).trans u0); have x1 := (cell_grown gr5 (B := w.heap.size) (by simp; omega) (fun q e e2 => nbA q e e2) 1).trans ((World.cell?_alloc_lt wA _ ⟨w.heap.size, 1, none⟩ (by show w.heap.size < _; omega)).trans u1))
            | (go_at_call 46; refine (l02Copy_any _ m _ (rN.bl (by (repeat' (first | (with_reducible exact Below.refl _ _) | (with_reducible refine bl_alloc ?_ _) | (with_reducible refine bl_drewN ?_ _) | (with_reducible refine bl_drew ?_) | (with_reducible assumption) | (with_reducible refine bl_to ?_ (by assumption)) | (with_reducible refine Below.trans ?_ (by assumption)) | (with_reducible refine Below.trans ?_ (Below.mono (by assumption) ?_)) | (with_reducible refine bl_set ?_ ?_ _) | (simp; done) | (simp; omega) | omega)))) hml).mono ?_; rintro e wA ⟨Aa, ca, rfl, oA, bA⟩; have sA : w3.heap.size ≤ wA.heap.size := bA.size; have u0 := (bA.cell (p := ⟨w.heap.size, 0, none⟩) q9).trans (show _ = _ from q0); have u1 := (bA.cell (p := ⟨w.heap.size, 1, none⟩) q9).trans (show _ = _ from q1); have prA := (pr.bl (show Below w3.heap.size w3 wA by (repeat' (first | (with_reducible exact Below.refl _ _) | (with_reducible refine bl_alloc ?_ _) | (with_reducible refine bl_drewN ?_ _) | (with_reducible refine bl_drew ?_) | (with_reducible assumption) | (with_reducible refine bl_to ?_ (by assumption)) | (with_reducible refine Below.trans ?_ (by assumption)) | (with_reducible refine Below.trans ?_ (Below.mono (by assumption) ?_)) | (with_reducible refine bl_set ?_ ?_ _) | (simp; done) | (simp; omega) | omega)))).bl (bl_alloc (Below.refl _ _) (.cells #[.string s, .slice Aa m.length ca] 41)); have nbA : ∀ q, _ = some q → w.heap.size = q → False := fun q e e2 => by have := (pr.rq.lt q e).1; omega))
          all_goals
            have belA : Below (w.heap.size + 1) w2 (wA.alloc (.cells #[.string s, .slice Aa m.length ca] 41)) := (bel2.trans ((show Below w3.heap.size w3 wA by (repeat' (first | (with_reducible exact Below.refl _ _) | (with_reducible refine bl_alloc ?_ _) | (with_reducible refine bl_drewN ?_ _) | (with_reducible refine bl_drew ?_) | (with_reducible assumption) | (with_reducible refine bl_to ?_ (by assumption)) | (with_reducible refine Below.trans ?_ (by assumption)) | (with_reducible refine Below.trans ?_ (Below.mono (by assumption) ?_)) | (with_reducible refine bl_set ?_ ?_ _) | (simp; done) | (simp; omega) | omega))).mono (by omega))).alloc (by omega) _
            have bel5 : Below (w.heap.size + 1) w2 w5 := prA.below gr5 belA (by omega)
            have pr5 := prA.app o5 gr5 at5
            have px5 := PutX.app (hi := hi) (q := .slice A3 To.length c3) ⟨own_lo (oA.alloc (.cells #[.string s, .slice Aa m.length ca] 41)) (by show w.heap.size + 1 ≤ w3.heap.size; omega), fun b e => ⟨by have h1 : w3.heap.size ≤ b := (oA.lt b e).1; omega, fun e2 => by have h1 : w3.heap.size ≤ b := (oA.lt b e).1; have := (pr.rq.lt b e2).2; omega⟩⟩ gr5 at5
            have hT1 : T1.length ≤ 2900000 := by rw [← HT1.out, List.length_append, List.length_singleton]; omega
            have d0 : w5.cell? ⟨G, k * 2, none⟩ = some (.string nm) := (pr5.ro.cellAt _ (by omega)).trans ((cE_get0 (by omega)).trans (by rw [HG.out]))
            have d1 : w5.cell? ⟨G, k * 2 + 1, none⟩ = some (.slice At nt ct) := (pr5.ro.cellAt _ (by omega)).trans ((cE_get1 (by omega)).trans (by rw [HG.out]))
            have hG5 := (pr5.ro.lt G rfl).2
            have sz5 := bel5.size
            obtain ⟨T5, hT5⟩ : ∃ T, T1 ++ [(nm, .slice At nt ct)] = T := ⟨_, rfl⟩
            have HT5 := Lib.hid hT5
            clear hT5 x0 x1 u0 u1 e0 e1 q0 q1
            go_wp2_with (at_builtin; refine wpList_app_c1 _ rfl _ _ rfl (w.heap.size + 1) _ T1 rfl (pr5.bl (bl_alloc (Below.refl _ _) _)).rq w5.heap.size (nm, .slice At nt ct) rfl (by simp [go_sem]) (by simp [go_sem]) ⟨_, _, _, rfl⟩ hT1 (by simp; omega) T5 HT5.out ?_; intro A7 c7 w7 o7 gr7 at7)
            have pr7 := (pr5.bl (bl_alloc (Below.refl _ _) _)).app o7 gr7 at7
            have px7 := (px5.bl (bl_alloc (Below.refl _ _) _)).app gr7 at7
            have bel7 : Below (w.heap.size + 1) w2 w7 := (pr5.bl (bl_alloc (Below.refl _ _) _)).below gr7 (bel5.alloc (by omega) _) (by omega)
            go_roundw
            case rel => exact ⟨k + 1, T5, by omega, by go_num, by simp, pr7, bel7, .inr ⟨by omega, .slice Aa m.length ca, ⟨_, _, _, rfl⟩, px7, by rw [← HT5.out, ← HT1.out, hT2.out]⟩⟩
            case measure => simp [intOf]; omega
    · obtain rfl : k = l.length := by omega
      have hlt' : ¬ (l.length : Int) < (l.length : Int) := by omega
      have belw : Below w.heap.size w wr := bel.trans (bel2.mono (by omega))
      have htt : t.take l.length = t := List.take_of_length_le (by omega)
      by_cases hput : p < l.length
      have hFT : ∃ vx, slV vx ∧ PutX (w.heap.size + 1) hi wr (.slice A3 To.length c3) vx m ∧ To = insL t p (s, vx) := by
        rcases hTo with ⟨h, _⟩ | ⟨_, h⟩
        · omega
        · rw [htt] at h; exact h
      obtain ⟨vx, _, px, hTe⟩ := hFT
      have own := pr.fin px hTe hP0
      have hlF : Hid (To.length = (insL l p (s, m)).length) := by show _ = _; rw [hTe, insL_len, insL_len, htl]
      have hdp : decide (p < l.length) = true := by simpa using hput
      rw [hdp]
      clear hTo hTe hdp htt pr px
      generalize insL l p (s, m) = N at *
      rw [hlF.out] at own
      rw [hlF.out]
      focus (go_wp2_with fail)
      rotate_left
      focus
        have hTe : To = t := by
          rcases hTo with ⟨_, h⟩ | ⟨h, _⟩
          · rw [h, htt]
          · omega
        have hdp : decide (p < l.length) = false := by simpa using hput
        rw [hdp]
        obtain rfl : p = l.length := by omega
        have rN := h2w.bl belw
        have sz3 := pr.hz
        have HTE := Lib.hid hTe
        clear hTo hdp htt hTe
        go_upto_region 12 with (fail)
        go_region_held3 (fun w' => w'.cell? ⟨w.heap.size, 0, none⟩ = some (.string s) ∧ w'.cell? ⟨w.heap.size, 1, none⟩ = some (.slice Ae me ce))
          (first | exact ⟨x0, x1⟩ | exact ⟨u0, u1⟩ | go_keep)
          (first
            | (refine step_is_append (.tmp 49) (.tmp 56) _ rfl ?_; obtain ⟨T1, hT1⟩ : ∃ T, To ++ [(s, .slice Aa m.length ca)] = T := ⟨_, rfl⟩; have HT1 := Lib.hid hT1; clear hT1; refine step_app_c1 _ (by rfl) _ _ (by rfl) (w.heap.size + 1) _ To (by rfl) prA.rq wA.heap.size (s, .slice Aa m.length ca) (by rfl) (by simp [go_sem]) (by simp [go_sem]) ⟨_, _, _, rfl⟩ hlen (by first | exact Nat.le_refl _ | omega | (simp; done) | (simp; omega)) T1 HT1.out ?_; intro A4 c4 w5 o5 gr5 at5; have x0 := (cell_grown gr5 (B := w.heap.size) (by simp; omega) (fun q e e2 => nbA q e e2) 0).trans ((World.cell?_alloc_lt wA _ ⟨w.heap.size, 0, none⟩ (by show w.heap.size < _; omega)).trans u0); have x1 := (cell_grown gr5 (B := w.heap.size) (by simp; omega) (fun q e e2 => nbA q e e2) 1).trans ((World.cell?_alloc_lt wA _ ⟨w.heap.size, 1, none⟩ (by show w.heap.size < _; omega)).trans u1))
            | (go_at_call 46; refine (l02Copy_any _ m _ (rN.bl (by (repeat' (first | (with_reducible exact Below.refl _ _) | (with_reducible refine bl_alloc ?_ _) | (with_reducible refine bl_drewN ?_ _) | (with_reducible refine bl_drew ?_) | (with_reducible assumption) | (with_reducible refine bl_to ?_ (by assumption)) | (with_reducible refine Below.trans ?_ (by assumption)) | (with_reducible refine Below.trans ?_ (Below.mono (by assumption) ?_)) | (with_reducible refine bl_set ?_ ?_ _) | (simp; done) | (simp; omega) | omega)))) hml).mono ?_; rintro e wA ⟨Aa, ca, rfl, oA, bA⟩; have sA : wr.heap.size ≤ wA.heap.size := bA.size; have u0 := (bA.cell (p := ⟨w.heap.size, 0, none⟩) q9).trans (show _ = _ from q0); have u1 := (bA.cell (p := ⟨w.heap.size, 1, none⟩) q9).trans (show _ = _ from q1); have prA := (pr.bl (show Below wr.heap.size wr wA by (repeat' (first | (with_reducible exact Below.refl _ _) | (with_reducible refine bl_alloc ?_ _) | (with_reducible refine bl_drewN ?_ _) | (with_reducible refine bl_drew ?_) | (with_reducible assumption) | (with_reducible refine bl_to ?_ (by assumption)) | (with_reducible refine Below.trans ?_ (by assumption)) | (with_reducible refine Below.trans ?_ (Below.mono (by assumption) ?_)) | (with_reducible refine bl_set ?_ ?_ _) | (simp; done) | (simp; omega) | omega)))).bl (bl_alloc (Below.refl _ _) (.cells #[.string s, .slice Aa m.length ca] 41)); have nbA : ∀ q, _ = some q → w.heap.size = q → False := fun q e e2 => by have := (pr.rq.lt q e).1; omega))
        have belA : Below (w.heap.size + 1) w2 (wA.alloc (.cells #[.string s, .slice Aa m.length ca] 41)) := (bel2.trans ((show Below wr.heap.size wr wA by (repeat' (first | (with_reducible exact Below.refl _ _) | (with_reducible refine bl_alloc ?_ _) | (with_reducible refine bl_drewN ?_ _) | (with_reducible refine bl_drew ?_) | (with_reducible assumption) | (with_reducible refine bl_to ?_ (by assumption)) | (with_reducible refine Below.trans ?_ (by assumption)) | (with_reducible refine Below.trans ?_ (Below.mono (by assumption) ?_)) | (with_reducible refine bl_set ?_ ?_ _) | (simp; done) | (simp; omega) | omega))).mono (by omega))).alloc (by omega) _
        have bel5 : Below (w.heap.size + 1) w2 w5 := prA.below gr5 belA (by omega)
        have pr5 := prA.app o5 gr5 at5
        have px5 := PutX.app (hi := hi) (q := .slice A3 To.length c3) ⟨own_lo (oA.alloc (.cells #[.string s, .slice Aa m.length ca] 41)) (by show w.heap.size + 1 ≤ wr.heap.size; omega), fun b e => ⟨by have h1 : wr.heap.size ≤ b := (oA.lt b e).1; omega, fun e2 => by have h1 : wr.heap.size ≤ b := (oA.lt b e).1; have := (pr.rq.lt b e2).2; omega⟩⟩ gr5 at5
        have hTe : T1 = insL t l.length (s, .slice Aa m.length ca) := by rw [← HT1.out, HTE.out, ← insL_end, htl]
        have own := pr5.fin px5 hTe hP0
        have hlF : Hid (T1.length = (insL l l.length (s, m)).length) := by show _ = _; rw [hTe, insL_len, insL_len, htl]
        replace belw : Below w.heap.size w w5 := bel.trans (bel5.mono (by omega))
        clear hTe x0 x1 u0 u1 pr px5 pr5 prA o5 gr5 at5 oA bA
        generalize insL l l.length (s, m) = N at *
        rw [hlF.out] at own
        rw [hlF.out]
        go_wp2_with fail
      all_goals
        refine (CS.out _ _ (h1w.bl belw)).mono ?_
        rintro e w6 ⟨rfl, b6⟩
        have own6 := own.bl b6
        have bel6 := bl_to belw b6
        have sz6 := b6.size
        clear own b6 belw
        cases cb
        · have hQ : Q = false := by simpa using HSP.out.symm
          subst hQ
          have hL : L = l := by simpa using HLL.out
          subst hL
          go_wp2_with fail
          refine (CP.out _ _ (h1w.bl bel6)).mono ?_
          rintro e w7 ⟨A7, c7, rfl, o7, b7⟩
          go_wp2
          go_ret2
          exact ⟨_, _, rfl, o7.mono bel6.size (Nat.le_refl _), bl_to bel6 b7⟩
        · go_wp2_with fail
          refine (CN.out _ _ own6.rd).mono ?_
          rintro e w7 ⟨rfl, b7⟩
          have own7 := own6.bl b7
          have bel7 := bl_to bel6 b7
          have sz7 := b7.size
          clear own6 b7 bel6
          cases nb
          · have hQ : Q = false := by simpa using HSP.out.symm
            subst hQ
            have hL : L = l := by simpa using HLL.out
            subst hL
            go_wp2_with fail
            refine (CP.out _ _ (h1w.bl bel7)).mono ?_
            rintro e w8 ⟨A7, c7, rfl, o7, b8⟩
            go_wp2
            go_ret2
            exact ⟨_, _, rfl, o7.mono bel7.size (Nat.le_refl _), bl_to bel7 b8⟩
          · have hQ : Q = true := by simpa using HSP.out.symm
            subst hQ
            have hL : L = N := by simpa using HLL.out
            subst hL
            go_wp2
            go_ret2
            exact ⟨_, _, rfl, own7.mono (by omega) (by omega), bel7⟩
end Go.Proofs.Ytighmoedkknkoaa
