/- Rows of pairs of strings of the call's own; the laws' helpers on them; lengths up to 2^20. -/
import Derived.Test.YtighmoedkknkoaaOwnEntry
import Derived.Test.YtighmoedkknkoaaRowStr
import Derived.Test.YtighmoedkknkoaaTail
import Derived.Deep.RegionLaw
import Derived.Maps.AppendAt
namespace Go.Proofs.Ytighmoedkknkoaa
open Go.RowKit Go.Sort

abbrev Pr := ByteArray × ByteArray
def cBs (bs : List Nat) : List Value := bs.map fun b => .slice (some ⟨b, 0, none⟩) 2 2
def gBs (bs : List Nat) (k : Nat) : Nat := bs.getD k 0
def gP (ps : List Pr) (k : Nat) : Pr := ps.getD k (ByteArray.empty, ByteArray.empty)
theorem gBs_eq {bs : List Nat} {k : Nat} (h : k < bs.length) : gBs bs k = bs[k] := by simp [gBs, h]
theorem gP_eq {ps : List Pr} {k : Nat} (h : k < ps.length) : gP ps k = ps[k] := by simp [gP, h]
theorem cBs_get {bs : List Nat} {k : Nat} (h : k < bs.length) : (cBs bs)[k]? = some (.slice (some ⟨gBs bs k, 0, none⟩) 2 2) := by simp [cBs, gBs, h]
theorem cBs_append (a b : List Nat) : cBs (a ++ b) = cBs a ++ cBs b := by simp [cBs]
theorem info_strs : (Try.prog.info? 64).map (fun i => (i.zero, i.size, i.bytes)) = some (some (.slice none 0 0), 1, 24) := by kernel_rfl
structure PP (lo hi g : Nat) (w : World) (v : Value) (bs : List Nat) (ps : List Pr) : Prop where
  row : w.ownsRow lo 64 1 v ps.length (cBs bs)
  len : bs.length = ps.length
  inn : ∀ k, k < ps.length → w.ownsRow lo 9 1 (.slice (some ⟨gBs bs k, 0, none⟩) 2 2) 2 (cS [(gP ps k).1, (gP ps k).2])
  rng : ∀ k, k < ps.length → gBs bs k < hi ∧ gBs bs k ≠ g
  vb : ∀ b, v.ownBlock = some b → b = g ∧ b < hi
  nd : ∀ i j, i < ps.length → j < ps.length → gBs bs i = gBs bs j → i = j
def OwnP (lo hi : Nat) (w : World) (v : Value) (ps : List Pr) : Prop := ∃ g bs, PP lo hi g w v bs ps
section
variable {lo hi g : Nat} {w w' : World} {v : Value} {bs : List Nat} {ps : List Pr}
theorem PP.same (h : PP lo hi g w v bs ps) (hb : ∀ k, lo ≤ k → k < hi → k < w.heap.size → w'.heap[k]? = w.heap[k]?) : PP lo hi g w' v bs ps :=
  ⟨own_same h.row fun b e => hb b (h.row.lt b e).1 (h.vb b e).2 (h.row.lt b e).2, h.len, fun k hk => own_same (h.inn k hk) fun b e => by
    have l := (h.inn k hk).lt b e
    simp [Value.ownBlock] at e
    subst e
    exact hb _ l.1 (h.rng k hk).1 l.2, h.rng, h.vb, h.nd⟩
theorem OwnP.apart {a b : Nat} (h : OwnP lo hi w v ps) (hp : Apart a b w w') (hd : hi ≤ a ∨ b ≤ lo) : OwnP lo hi w' v ps := by
  obtain ⟨g, bs, h⟩ := h
  exact ⟨g, bs, h.same fun k h1 h2 h3 => hp.block k h3 (by omega)⟩
theorem OwnP.bl (h : OwnP lo hi w v ps) (hb : Below w.heap.size w w') : OwnP lo hi w' v ps := by
  obtain ⟨g, bs, h⟩ := h
  exact ⟨g, bs, h.same fun k _ _ h3 => hb.block k h3⟩
theorem OwnP.form (h : OwnP lo hi w v ps) : ∃ A c, v = .slice A ps.length c := by
  obtain ⟨g, bs, h⟩ := h
  exact own_form h.row
theorem OwnP.mono {lo' hi' : Nat} (h : OwnP lo hi w v ps) (h1 : lo' ≤ lo) (h2 : hi ≤ hi') : OwnP lo' hi' w v ps := by
  obtain ⟨g, bs, h⟩ := h
  exact ⟨g, bs, own_lo h.row h1, h.len, fun k hk => own_lo (h.inn k hk) h1, fun k hk => ⟨Nat.lt_of_lt_of_le (h.rng k hk).1 h2, (h.rng k hk).2⟩, fun b e => ⟨(h.vb b e).1, Nat.lt_of_lt_of_le (h.vb b e).2 h2⟩, h.nd⟩
theorem OwnP.hig (h : OwnP lo hi w v ps) {hi' : Nat} (hh : w.heap.size ≤ hi') : OwnP lo hi' w v ps := by
  obtain ⟨g, bs, h⟩ := h
  refine ⟨g, bs, h.row, h.len, h.inn, fun k hk => ⟨?_, (h.rng k hk).2⟩, fun b e => ⟨(h.vb b e).1, Nat.lt_of_lt_of_le (h.row.lt b e).2 hh⟩, h.nd⟩
  exact Nat.lt_of_lt_of_le ((h.inn k hk).lt _ rfl).2 hh
/-- one pair more -/
theorem PP.snoc {v' : Value} {x : Pr} {B hz : Nat} (h : PP lo hi g w v bs ps) (gr : w.grownBy w' v.ownBlock) (at' : v'.ownBlock = v.ownBlock ∨ v'.ownBlock = some w.heap.size) (ow : w'.ownsRow lo 64 1 v' (ps ++ [x]).length (cBs (bs ++ [B]))) (hx : w.ownsRow lo 9 1 (.slice (some ⟨B, 0, none⟩) 2 2) 2 (cS [x.1, x.2])) (hB : hi ≤ B) (hlo : lo ≤ hi) : OwnP lo w'.heap.size w' v' (ps ++ [x]) := by
  have hBw := (hx.lt B rfl).2
  have hvB : v.ownBlock ≠ some B := fun e => by have := (h.vb B e).2; omega
  have hx' : w'.ownsRow lo 9 1 (.slice (some ⟨B, 0, none⟩) 2 2) 2 (cS [x.1, x.2]) := own_same hx fun b e => by
    simp [Value.ownBlock] at e; subst e; exact gr.block _ hBw (fun q => hvB q.symm)
  have hin : ∀ k, k < ps.length → w'.ownsRow lo 9 1 (.slice (some ⟨gBs bs k, 0, none⟩) 2 2) 2 (cS [(gP ps k).1, (gP ps k).2]) := fun k hk => own_same (h.inn k hk) fun b e => by
    have l := (h.inn k hk).lt b e
    simp [Value.ownBlock] at e
    subst e
    exact gr.block _ l.2 (fun q => (h.rng k hk).2 (h.vb _ q.symm).1)
  have e1 : ∀ k, k < ps.length → gBs (bs ++ [B]) k = gBs bs k := fun k hk => by rw [gBs_eq (by simp; have := h.len; omega), gBs_eq (by have := h.len; omega), List.getElem_append_left]
  have e2 : gBs (bs ++ [B]) ps.length = B := by rw [← h.len]; simp [gBs]
  have e3 : ∀ k, k < ps.length → gP (ps ++ [x]) k = gP ps k := fun k hk => by rw [gP_eq (by simp; omega), gP_eq hk, List.getElem_append_left]
  have e4 : gP (ps ++ [x]) ps.length = x := by simp [gP]
  have hk : ∀ k, k < (ps ++ [x]).length → k < ps.length ∨ k = ps.length := fun k hk => by simp at hk; omega
  refine ⟨v'.ownBlock.getD w'.heap.size, bs ++ [B], ow, by rw [List.length_append, List.length_append, h.len]; rfl, fun k q => ?_, fun k q => ?_, fun b e => ⟨by rw [e]; rfl, (ow.lt b e).2⟩, fun i j p q e => ?_⟩
  · rcases hk k q with q | rfl
    · rw [e1 k q, e3 k q]; exact hin k q
    · rw [e2, e4]; exact hx'
  · rcases hk k q with q | rfl
    · rw [e1 k q]
      refine ⟨((hin k q).lt _ rfl).2, fun e => ?_⟩
      cases hv : v'.ownBlock with
      | none => rw [hv] at e; have := ((hin k q).lt (gBs bs k) rfl).2; simp at e; omega
      | some b =>
        rw [hv] at e
        simp at e
        rcases at' with a | a
        · rw [hv] at a; exact (h.rng k q).2 (by rw [e]; exact (h.vb b a.symm).1)
        · rw [hv] at a; cases a; have := ((h.inn k q).lt (gBs bs k) rfl).2; omega
    · rw [e2]
      refine ⟨(hx'.lt _ rfl).2, fun e => ?_⟩
      cases hv : v'.ownBlock with
      | none => rw [hv] at e; have := (hx'.lt B rfl).2; simp at e; omega
      | some b =>
        rw [hv] at e
        simp at e
        subst e
        rcases at' with a | a
        · rw [hv] at a; exact hvB a.symm
        · rw [hv] at a; cases a; omega
  · rcases hk i p with p | rfl
    · rcases hk j q with q | rfl
      · rw [e1 i p, e1 j q] at e; exact h.nd i j p q e
      · rw [e1 i p, e2] at e; have := (h.rng i p).1; omega
    · rcases hk j q with q | rfl
      · rw [e1 j q, e2] at e; have := (h.rng j q).1; omega
      · rfl
end
/-- 'append(v, []string{a, b})': the inner row in block B, the built one in block G -/
theorem wp_app_P (w : World) {o : Oper} {a : Act} {K : Act → World → Prop} {Q : Exit → Act → World → Prop} (s x : Operand)
    (ho : o.op = .call { callee := .builtin .append, args := #[s, x], argTypes := #[46, 46] })
    (lo hi : Nat) (v : Value) (ps : List Pr) (hs : a.eval s = v) (hown : OwnP lo hi w v ps)
    (G B : Nat) (y : Pr) (hx : a.eval x = .slice (some ⟨G, 0, none⟩) 1 1) (hc0 : w.cell? ⟨G, 0, none⟩ = some (.slice (some ⟨B, 0, none⟩) 2 2)) (hB : w.ownsRow lo 9 1 (.slice (some ⟨B, 0, none⟩) 2 2) 2 (cS [y.1, y.2])) (hhi : hi ≤ B) (hlo : lo ≤ hi) (hl : ps.length ≤ 4000000) (hbase : lo ≤ w.heap.size) (L : List Pr) (hL : ps ++ [y] = L)
    (h : ∀ A c w', OwnP lo w'.heap.size w' (.slice A L.length c) L → Apart lo hi w w' → w.grownBy w' v.ownBlock → ((Value.slice A L.length c).ownBlock = v.ownBlock ∨ (Value.slice A L.length c).ownBlock = some w.heap.size) → K (a.put o.dst (.slice A L.length c)) w') : o.wp Try.prog a w K Q := by
  subst hL
  obtain ⟨g, bs, hp⟩ := hown
  obtain ⟨i0, hi0, hz0, hz1, hz2⟩ := info_parts info_strs
  obtain ⟨v', w', hr, h2, h3, h4, h5⟩ := run_append_own_at (P := Try.prog) w lo 46 o.type 64 i0 (.slice none 0 0) 1 24 Try.underlying46 hi0 hz0 hz1 hz2 rfl (by decide) v ps.length (cBs bs) hp.row ⟨G, 0, none⟩ 1 1 [.slice (some ⟨B, 0, none⟩) 2 2] rfl
    (by
      intro j u hj
      match j, hj with
      | 0, hj => simp at hj; subst hj; simpa [Addr.add] using hc0)
    (by
      intro u hu
      simp at hu
      subst hu; rfl) (by unfold maxLen; omega) (by omega) hbase
  rw [show ps.length + 1 = (ps ++ [y]).length by simp, show cBs bs ++ [.slice (some ⟨B, 0, none⟩) 2 2] = cBs (bs ++ [B]) by rw [cBs_append]; rfl] at h2
  unfold Oper.wp execOp
  simp only [ho, resolve, invoke, builtin, Sem.run_bind, Sem.run_pure, Result.andThen_ok, List.map_toArray, List.map_cons, List.map_nil, hs, hx, hr]
  obtain ⟨A, c, rfl⟩ := own_form h2
  exact h A c w' (hp.snoc (hz := 0) h3 h5 h2 hB hhi hlo) (World.grownBy.apart h3 fun k hk => ⟨(hp.row.lt k hk).1, (hp.vb k hk).2⟩) h3 h5
theorem step_app_P (w : World) {ops : Array Oper} {o : Oper} {a : Act} {K : Act → World → Prop} {Q : Exit → Act → World → Prop} {E : Prop} (hgd : o.guard = none) (s x : Operand)
    (ho : o.op = .call { callee := .builtin .append, args := #[s, x], argTypes := #[46, 46] })
    (lo hi : Nat) (v : Value) (ps : List Pr) (hs : a.eval s = v) (hown : OwnP lo hi w v ps)
    (G B : Nat) (y : Pr) (hx : a.eval x = .slice (some ⟨G, 0, none⟩) 1 1) (hc0 : w.cell? ⟨G, 0, none⟩ = some (.slice (some ⟨B, 0, none⟩) 2 2)) (hB : w.ownsRow lo 9 1 (.slice (some ⟨B, 0, none⟩) 2 2) 2 (cS [y.1, y.2])) (hhi : hi ≤ B) (hlo : lo ≤ hi) (hl : ps.length ≤ 4000000) (hbase : lo ≤ w.heap.size) (L : List Pr) (hL : ps ++ [y] = L)
    (h : ∀ A c w', OwnP lo w'.heap.size w' (.slice A L.length c) L → Apart lo hi w w' → w.grownBy w' v.ownBlock → ((Value.slice A L.length c).ownBlock = v.ownBlock ∨ (Value.slice A L.length c).ownBlock = some w.heap.size) → K (a.put o.dst (.slice A L.length c)) w') :
    if Region.wanted o (yielded ops a.tmps) = true then Oper.wp Try.prog o a w K Q else E := by
  have hw : Region.wanted o (yielded ops a.tmps) = true := by simp [Region.wanted, hgd]
  rw [if_pos hw]
  exact wp_app_P w s x ho lo hi v ps hs hown G B y hx hc0 hB hhi hlo hl hbase L hL h
theorem wpList_app_P (w : World) {ops : Array Oper} {rest : List Oper} {o : Oper} {a : Act} {Q : Exit → Act → World → Prop} (hgd : o.guard = none) (s x : Operand)
    (ho : o.op = .call { callee := .builtin .append, args := #[s, x], argTypes := #[46, 46] })
    (lo hi : Nat) (v : Value) (ps : List Pr) (hs : a.eval s = v) (hown : OwnP lo hi w v ps)
    (G B : Nat) (y : Pr) (hx : a.eval x = .slice (some ⟨G, 0, none⟩) 1 1) (hc0 : w.cell? ⟨G, 0, none⟩ = some (.slice (some ⟨B, 0, none⟩) 2 2)) (hB : w.ownsRow lo 9 1 (.slice (some ⟨B, 0, none⟩) 2 2) 2 (cS [y.1, y.2])) (hhi : hi ≤ B) (hlo : lo ≤ hi) (hl : ps.length ≤ 4000000) (hbase : lo ≤ w.heap.size) (L : List Pr) (hL : ps ++ [y] = L)
    (h : ∀ A c w', OwnP lo w'.heap.size w' (.slice A L.length c) L → Apart lo hi w w' → w.grownBy w' v.ownBlock → ((Value.slice A L.length c).ownBlock = v.ownBlock ∨ (Value.slice A L.length c).ownBlock = some w.heap.size) → wpList Try.prog ops Q rest (a.put o.dst (.slice A L.length c)) w') : wpList Try.prog ops Q (o :: rest) a w :=
  wpList_plain hgd fun _ hK => wp_app_P w s x ho lo hi v ps hs hown G B y hx hc0 hB hhi hlo hl hbase L hL fun A c w' h2 h3 h4 h5 => hK _ _ (h A c w' h2 h3 h4 h5)
/-- the two cells of pair k, and the slice that names them -/
theorem PP.at_ {lo hi g k : Nat} {w : World} {A : Option Addr} {c : Nat} {bs : List Nat} {ps : List Pr} (h : PP lo hi g w (.slice A ps.length c) bs ps) (hk : k < ps.length) : ∃ G, A = some ⟨G, 0, none⟩ ∧ G < w.heap.size ∧ w.cell? ⟨G, k, none⟩ = some (.slice (some ⟨gBs bs k, 0, none⟩) 2 2) := by
  rcases h.row.2 with ⟨hv, h0⟩ | ⟨G, cap, cur, hv, _⟩
  · omega
  · simp only [Value.slice.injEq] at hv
    obtain ⟨rfl, _, rfl⟩ := hv
    exact ⟨G, rfl, (h.row.lt G rfl).2, (h.row.cellAt k (by omega)).trans (cBs_get (by rw [h.len]; exact hk))⟩
set_option maxHeartbeats 1600000 in
set_option maxRecDepth 100000 in
theorem eqSS_any (lo hi lo2 hi2 : Nat) (v1 v2 : Value) (ps : List Pr) (w : World) (h1 : OwnP lo hi w v1 ps) (h2 : OwnP lo2 hi2 w v2 ps) (hl : ps.length ≤ 1048576) :
    Calls Try.prog 28 #[v1, v2] w fun e w' => e = .returned (.bool true) ∧ Below w.heap.size w w' := by
  obtain ⟨A1, c1, rfl⟩ := h1.form
  obtain ⟨A2, c2, rfl⟩ := h2.form
  obtain ⟨g1, b1, p1⟩ := h1
  obtain ⟨g2, b2, p2⟩ := h2
  go_enter Try.func28, Try.ntmps28
  go_wp2
  go_loopw [5] (fun i wr => ∃ k : Nat, k ≤ ps.length ∧ i = .int .i64 k ∧ Below w.heap.size w wr) (fun i _ => ps.length - (intOf i).toNat)
  case atStart => exact ⟨0, Nat.zero_le _, rfl, Below.refl _ _⟩
  case round =>
    obtain ⟨k, hk, rfl, bel⟩ := hrel
    by_cases hlt : k < ps.length
    · obtain ⟨G1, rfl, hG1, e0⟩ := p1.at_ hlt
      obtain ⟨G2, rfl, hG2, d0⟩ := p2.at_ hlt
      have e0 := (bel.cell (p := ⟨G1, k, none⟩) hG1).trans e0
      have d0 := (bel.cell (p := ⟨G2, k, none⟩) hG2).trans d0
      have r1 : RdS wr (.slice (some ⟨gBs b1 k, 0, none⟩) 2 2) [(gP ps k).1, (gP ps k).2] := Rd.bl (Rd.of_own (p1.inn k hlt)) bel
      have r2 : RdS wr (.slice (some ⟨gBs b2 k, 0, none⟩) 2 2) [(gP ps k).1, (gP ps k).2] := Rd.bl (Rd.of_own (p2.inn k hlt)) bel
      have hlt' : (k : Int) < (ps.length : Int) := by omega
      have g0 := cell_regrown e0
      have g1 := cell_regrown d0
      clear e0 d0
      go_wp2
      (refine wp_region_quiet_below (by kernel_rfl) (by kernel_rfl) ?_; (repeat (first | go_big_quiet_skip | (go_big_quiet_want; go_big_quiet_op; (first | go_big_quiet_on | (apply Exists.intro; refine ⟨fun _ => ?_, ?_⟩; (focus (first | (go_at_call 50; exact Calls.regrown_of (eqStr_any _ _ _ _ (r1.bl (below_regrown _ _ _)) (r2.bl (below_regrown _ _ _)) (by simp))) | fail)); go_big_quiet_on))))); refine wpQuiet_nil ?_; (intro wq hwq; have bq := rg_below hwq; clear hwq))
      have belq := bl_to bel bq
      clear bel bq g0 g1 r1 r2
      go_wp2
      go_roundw
      case rel => exact ⟨k + 1, by omega, by go_num, belq⟩
      case measure => simp [intOf]; omega
    · have hlt' : ¬ (k : Int) < (ps.length : Int) := by omega
      go_wp2
      go_ret
      exact ⟨rfl, bel⟩
/-- the marked pairs -/
def mkP (k n : Nat) : List Pr := (List.range n).map fun i => (mkT (k + 2 * i), mkT (k + 2 * i + 1))
theorem mkP_len (k n : Nat) : (mkP k n).length = n := by simp [mkP]
theorem mkP_get {k n i : Nat} (h : i < n) : gP (mkP k n) i = (mkT (k + 2 * i), mkT (k + 2 * i + 1)) := by simp [gP, mkP, h]
theorem mkP_get' {k n i : Nat} (h : i < (mkP k n).length) : (mkP k n)[i] = (mkT (k + 2 * i), mkT (k + 2 * i + 1)) := by simp [mkP]
theorem upS2 (k : Nat) : upS k 2 = [mkT k, mkT (k + 1)] := rfl
set_option maxHeartbeats 3200000 in
set_option maxRecDepth 100000 in
theorem markSS_any (lo hi : Nat) (v : Value) (ps : List Pr) (k0 : Nat) (w : World) (h1 : OwnP lo hi w v ps) (hl : ps.length ≤ 1048576) (hk0 : 0 < k0) (hk1 : k0 ≤ 800000000) :
    Calls Try.prog 29 #[v, .int .i64 (k0 : Int)] w fun e w' => e = .returned (.int .i64 ((k0 + 2 * ps.length : Nat) : Int)) ∧ OwnP lo hi w' v (mkP k0 ps.length) ∧ Apart lo hi w w' := by
  obtain ⟨A1, c1, rfl⟩ := h1.form
  obtain ⟨g, bs, p1⟩ := h1
  go_enter Try.func29, Try.ntmps29
  go_wp2
  go_loopw [1, 5] (fun q i wr => ∃ j : Nat, j ≤ ps.length ∧ i = .int .i64 j ∧ q = .int .i64 ((k0 + 2 * j : Nat) : Int) ∧ PP lo hi g wr (.slice A1 ps.length c1) bs ((mkP k0 ps.length).take j ++ ps.drop j) ∧ Apart lo hi w wr) (fun _ i _ => ps.length - (intOf i).toNat)
  case atStart => exact ⟨0, Nat.zero_le _, rfl, by simp, by simpa using p1, Apart.refl _ _ _⟩
  case round =>
    obtain ⟨j, hj, rfl, rfl, pp, ap⟩ := hrel
    by_cases hlt : j < ps.length
    · have hml : ((mkP k0 ps.length).take j ++ ps.drop j).length = ps.length := by rw [List.length_append, List.length_take, List.length_drop, mkP_len]; omega
      have hset := take_succ_set (mkP k0 ps.length) ps j (by rw [mkP_len]; exact hlt) (by rw [mkP_len])
      rw [mkP_get'] at hset
      obtain ⟨M, hM⟩ : ∃ M, (mkP k0 ps.length).take j ++ ps.drop j = M := ⟨_, rfl⟩
      obtain ⟨M2, hM2⟩ : ∃ M, (mkP k0 ps.length).take (j + 1) ++ ps.drop (j + 1) = M := ⟨_, rfl⟩
      rw [hM] at pp hml hset
      rw [hM2] at hset
      have pp' : PP lo hi g wr (.slice A1 M.length c1) bs M := by rw [hml]; exact pp
      obtain ⟨G, rfl, hG, e0⟩ := pp'.at_ (k := j) (by omega)
      have inj := pp.inn j (by omega)
      obtain ⟨K, hK⟩ : ∃ K, k0 + 2 * j = K := ⟨_, rfl⟩
      have HK := Lib.hid hK
      have HM := Lib.hid hM2
      have hKb : K ≤ 900000000 := by omega
      have hK0 : 0 < K := by omega
      have cm := fun W h => markStr_any lo (.slice (some ⟨gBs bs j, 0, none⟩) 2 2) [(gP M j).1, (gP M j).2] K W h (by simp) hK0 hKb
      have CM := Lib.hid cm
      have hlt' : (j : Int) < (ps.length : Int) := by omega
      rw [hK] at hset
      rw [hK]
      clear cm hK hM hM2 pp'
      go_wp2_with (go_at_call 51; refine (CM.out _ inj).mono ?_; rintro e w2 ⟨rfl, om, gr⟩)
      have om' : w2.ownsRow lo 9 1 (.slice (some ⟨gBs bs j, 0, none⟩) 2 2) 2 (cS [mkT K, mkT (K + 1)]) := om
      have hne : ∀ b, (Value.slice (some ⟨G, 0, none⟩) ps.length c1).ownBlock = some b → b ≠ gBs bs j := fun b e e2 => (pp.rng j (by omega)).2 (by rw [← e2]; exact (pp.vb b e).1)
      have ap2 := World.grownBy.apart gr (a := lo) (b := hi) (fun b e => by simp [Value.ownBlock] at e; subst e; exact ⟨(inj.lt _ rfl).1, (pp.rng j (by omega)).1⟩)
      have e1 : ∀ i, i ≠ j → gP M2 i = gP M i := fun i hi' => by rw [← hset]; simp only [gP, List.getD_eq_getElem?_getD, List.getElem?_set_ne (fun e => hi' e.symm)]
      have e2 : gP M2 j = (mkT K, mkT (K + 1)) := by rw [← hset, gP, List.getD_eq_getElem?_getD, List.getElem?_set_self (by omega)]; rfl
      have hm2l : M2.length = ps.length := by rw [← hset, List.length_set, hml]
      have PP2 : Hid (PP lo hi g w2 (.slice (some ⟨G, 0, none⟩) ps.length c1) bs M2) := by
        refine ⟨?_, by rw [hm2l, pp.len, hml], fun i hi' => ?_, fun i hi' => pp.rng i (by omega), pp.vb, fun i i' p q => pp.nd i i' (by omega) (by omega)⟩
        · rw [show M2.length = M.length by omega]
          exact own_same pp.row fun b e => gr.block b (pp.row.lt b e).2 (fun q => by simp [Value.ownBlock] at q; exact hne b e q)
        · by_cases q : i = j
          · subst q; rw [e2]; exact om'
          · rw [e1 i q]
            exact own_same (pp.inn i (by omega)) fun b e => gr.block b ((pp.inn i (by omega)).lt b e).2 (fun q2 => by
              simp [Value.ownBlock] at e q2
              exact q (pp.nd i j (by omega) (by omega) (by omega)))
      have AP := Lib.hid (ap.trans ap2)
      clear om om' gr ap2 e1 e2 hset hm2l pp inj
      go_roundw
      case rel => exact ⟨j + 1, by omega, by go_num, by rw [show k0 + 2 * (j + 1) = K + 2 by have := HK.out; omega]; go_num, by rw [HM.out]; exact PP2.out, AP.out⟩
      case measure => simp [intOf]; omega
    · obtain rfl : j = ps.length := by omega
      have hlt' : ¬ (ps.length : Int) < (ps.length : Int) := by omega
      rw [List.drop_length, List.append_nil, List.take_of_length_le (by rw [mkP_len]; exact Nat.le_refl _)] at pp
      go_wp2
      go_ret
      exact ⟨ret_int (by first | rfl | omega), ⟨g, bs, pp⟩, ap⟩
set_option maxHeartbeats 1600000 in
set_option maxRecDepth 100000 in
theorem heldSS_any (lo hi : Nat) (v : Value) (n : Nat) (k0 : Nat) (w : World) (h1 : OwnP lo hi w v (mkP k0 n)) (hl : n ≤ 1048576) (hk0 : 0 < k0) (hk1 : k0 ≤ 800000000) :
    Calls Try.prog 30 #[v, .int .i64 (k0 : Int)] w fun e w' => e = .returned (.int .i64 ((k0 + 2 * n : Nat) : Int)) ∧ Below w.heap.size w w' := by
  obtain ⟨A1, c1, rfl⟩ := h1.form
  obtain ⟨g, bs, p1⟩ := h1
  have hml := mkP_len k0 n
  have p1' := p1
  rw [hml]
  rw [hml] at p1
  go_enter Try.func30, Try.ntmps30
  go_wp2
  go_loopw [1, 5] (fun q i wr => ∃ j : Nat, j ≤ n ∧ i = .int .i64 j ∧ q = .int .i64 ((k0 + 2 * j : Nat) : Int) ∧ Below w.heap.size w wr) (fun _ i _ => n - (intOf i).toNat)
  case atStart => exact ⟨0, Nat.zero_le _, rfl, by simp, Below.refl _ _⟩
  case round =>
    obtain ⟨j, hj, rfl, rfl, bel⟩ := hrel
    by_cases hlt : j < n
    · obtain ⟨G, rfl, hG, e0⟩ := p1'.at_ (k := j) (by omega)
      have e0 := (bel.cell (p := ⟨G, j, none⟩) hG).trans e0
      have inj := Rd.bl (Rd.of_own (p1'.inn j (by omega))) bel
      rw [mkP_get hlt] at inj
      obtain ⟨K, hK⟩ : ∃ K, k0 + 2 * j = K := ⟨_, rfl⟩
      rw [hK] at inj
      have HK := Lib.hid hK
      have hKb : K ≤ 900000000 := by omega
      have hK0 : 0 < K := by omega
      have cm := fun W h => heldStr_any (.slice (some ⟨gBs bs j, 0, none⟩) 2 2) 2 K W h (by omega) hK0 hKb
      have CM := Lib.hid cm
      have hlt' : (j : Int) < (n : Int) := by omega
      have hz : ¬ (K : Int) + 2 < 0 := by omega
      rw [hK]
      clear cm hK p1 p1' hml
      go_wp2_with (go_at_call 52; refine (CM.out _ (by rw [upS2]; exact inj)).mono ?_; rintro e w2 ⟨rfl, b2⟩)
      have bel2 := bl_to bel b2
      go_roundw
      case rel => exact ⟨j + 1, by omega, by go_num, by rw [show k0 + 2 * (j + 1) = K + 2 by have := HK.out; omega]; go_num, bel2⟩
      case measure => simp [intOf]; omega
    · obtain rfl : j = n := by omega
      have hlt' : ¬ (j : Int) < (j : Int) := by omega
      go_wp2
      go_ret
      exact ⟨ret_int (by first | rfl | omega), bel⟩
end Go.Proofs.Ytighmoedkknkoaa
