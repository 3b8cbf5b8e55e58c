/- 'append' at slices of Pin of the call's own; copies; lengths up to 2^20. -/
import Derived.Test.YthgllpocljeegaaGreatDoorRowPin
import Derived.Deep.RegionLaw
import Derived.Maps.AppendAt
namespace Go.Proofs.YthgllpocljeegaaGreatDoor
open Go.RowKit

/-- 'append(v, y)', v a row of the call's own: y lies in a block of its own -/
theorem wpList_app_P (w : World) {ops : Array Oper} {rest : List Oper} {o : Oper} {a : Act} {Q : Exit → Act → World → Prop} (hgd : o.guard = none) (s x : Operand)
    (ho : o.op = .call { callee := .builtin .append, args := #[s, x], argTypes := #[29, 29] })
    (lo : Nat) (v : Value) (l : List (Int × Int)) (hs : a.eval s = v) (hown : w.ownsRow lo 44 2 v l.length (cP l))
    (g : Nat) (y0 y1 : Int) (hx : a.eval x = .slice (some ⟨g, 0, none⟩) 1 1) (hc0 : w.cell? ⟨g, 0, none⟩ = some (.int .i64 y0)) (hc1 : w.cell? ⟨g, 1, none⟩ = some (.int .i64 y1)) (hl : l.length ≤ 4194304) (hbase : lo ≤ w.heap.size)
    (h : ∀ v' w', w'.ownsRow lo 44 2 v' (l ++ [(y0, y1)]).length (cP (l ++ [(y0, y1)])) → Below lo w w' → w.grownBy w' v.ownBlock → (v'.ownBlock = v.ownBlock ∨ v'.ownBlock = some w.heap.size) → wpList Tryz.prog ops Q rest (a.put o.dst v') w') : wpList Tryz.prog ops Q (o :: rest) a w := by
  obtain ⟨i0, hi0, hz0, hz1, hz2⟩ := info_parts info_Pin
  refine wpList_append_own_at w hgd s x 29 ho lo 44 i0 (.agg #[.int .i64 0, .int .i64 0]) 2 16 Tryz.underlying29 hi0 hz0 hz1 hz2 rfl (by decide) v l.length (cP l) hs hown ⟨g, 0, none⟩ 1 1 [.int .i64 y0, .int .i64 y1] hx rfl ?_ ?_ (by unfold maxLen; omega) (by omega) hbase ?_
  · intro j u hj
    match j, hj with
    | 0, hj => simp at hj; subst hj; simpa [Addr.add] using hc0
    | 1, hj => simp at hj; subst hj; simpa [Addr.add] using hc1
  · intro u hu
    simp at hu
    rcases hu with rfl | rfl <;> rfl
  · intro v' w' own' gr _ at'
    exact h v' w' (by rw [List.length_append, cP_append]; exact own') ((Below.refl lo w).grown gr hbase (fun k hk => (hown.lt k hk).1)) gr at'

theorem step_app_P1 (w : World) {ops : Array Oper} {o : Oper} {a : Act} {K : Act → World → Prop} {Q : Exit → Act → World → Prop} {E : Prop} (hgd : o.guard = none) (s x : Operand)
    (ho : o.op = .call { callee := .builtin .append, args := #[s, x], argTypes := #[29, 29] })
    (lo : Nat) (v : Value) (l : List (Int × Int)) (hs : a.eval s = v) (hown : w.ownsRow lo 44 2 v l.length (cP l))
    (g : Nat) (y0 y1 : Int) (hx : a.eval x = .slice (some ⟨g, 0, none⟩) 1 1) (hc0 : w.cell? ⟨g, 0, none⟩ = some (.int .i64 y0)) (hc1 : w.cell? ⟨g, 1, none⟩ = some (.int .i64 y1)) (hl : l.length ≤ 4194304) (hbase : lo ≤ w.heap.size)
    (h : ∀ A m c w', w'.ownsRow lo 44 2 (.slice A m c) (l ++ [(y0, y1)]).length (cP (l ++ [(y0, y1)])) → Below lo w w' → w.grownBy w' v.ownBlock → ((Value.slice A m c).ownBlock = v.ownBlock ∨ (Value.slice A m c).ownBlock = some w.heap.size) → K (a.put o.dst (.slice A m c)) w') :
    if Region.wanted o (yielded ops a.tmps) = true then Oper.wp Tryz.prog o a w K Q else E := by
  have hw : Region.wanted o (yielded ops a.tmps) = true := by simp [Region.wanted, hgd]
  rw [if_pos hw]
  obtain ⟨i0, hi0, hz0, hz1, hz2⟩ := info_parts info_Pin
  obtain ⟨v', w', hr, h2, h3, h4, h5⟩ := run_append_own_at (P := Tryz.prog) w lo 29 o.type 44 i0 (.agg #[.int .i64 0, .int .i64 0]) 2 16 Tryz.underlying29 hi0 hz0 hz1 hz2 rfl (by decide) v l.length (cP l) hown ⟨g, 0, none⟩ 1 1 [.int .i64 y0, .int .i64 y1] rfl
    (by
      intro j u hj
      match j, hj with
      | 0, hj => simp at hj; subst hj; simpa [Addr.add] using hc0
      | 1, hj => simp at hj; subst hj; simpa [Addr.add] using hc1)
    (by
      intro u hu
      simp at hu
      rcases hu with rfl | rfl <;> rfl) (by unfold maxLen; omega) (by omega) hbase
  rw [show l.length + 1 = (l ++ [(y0, y1)]).length by simp, show cP l ++ [.int .i64 y0, .int .i64 y1] = cP (l ++ [(y0, y1)]) by rw [cP_append]; rfl] at h2
  unfold Oper.wp execOp
  simp only [ho, resolve, invoke, builtin, Sem.run_bind, Sem.run_pure, Result.andThen_ok, List.map_toArray, List.map_cons, List.map_nil, hs, hx, hr]
  obtain ⟨A, c, rfl⟩ := own_form h2
  exact h A _ c w' h2 ((Below.refl lo w).grown h3 hbase (fun k hk => (hown.lt k hk).1)) h3 h5

/-- 'append(v, x...)' -/
theorem wp_app_Ps (w : World) {o : Oper} {a : Act} {K : Act → World → Prop} {Q : Exit → Act → World → Prop} (s x : Operand)
    (ho : o.op = .call { callee := .builtin .append, args := #[s, x], argTypes := #[29, 29] })
    (lo : Nat) (v : Value) (l : List (Int × Int)) (hs : a.eval s = v) (hown : w.ownsRow lo 44 2 v l.length (cP l))
    (vx : Value) (m : List (Int × Int)) (hx : a.eval x = vx) (hr : RdP w vx m) (hl : l.length + m.length ≤ 4194304) (hbase : lo ≤ w.heap.size) (L : List (Int × Int)) (hL : l ++ m = L)
    (h : ∀ A c w', w'.ownsRow lo 44 2 (.slice A L.length c) L.length (cP L) → Below lo w w' → K (a.put o.dst (.slice A L.length c)) w') : o.wp Tryz.prog a w K Q := by
  obtain ⟨i0, hi0, hz0, hz1, hz2⟩ := info_parts info_Pin
  refine wp_app_rd w s x 29 ho lo 44 i0 (.agg #[.int .i64 0, .int .i64 0]) 2 16 Tryz.underlying29 hi0 hz0 hz1 hz2 rfl (by decide) v l.length (cP l) hs hown vx m.length (cP m) hx hr (cP_one m) hl (by omega) hbase ?_
  intro v' w' own' b'
  subst hL
  rw [← List.length_append, ← cP_append] at own'
  obtain ⟨A, c, rfl⟩ := own_form own'
  exact h A c w' own' b'
theorem wpList_app_Ps (w : World) {ops : Array Oper} {rest : List Oper} {o : Oper} {a : Act} {Q : Exit → Act → World → Prop} (hgd : o.guard = none) (s x : Operand)
    (ho : o.op = .call { callee := .builtin .append, args := #[s, x], argTypes := #[29, 29] })
    (lo : Nat) (v : Value) (l : List (Int × Int)) (hs : a.eval s = v) (hown : w.ownsRow lo 44 2 v l.length (cP l))
    (vx : Value) (m : List (Int × Int)) (hx : a.eval x = vx) (hr : RdP w vx m) (hl : l.length + m.length ≤ 4194304) (hbase : lo ≤ w.heap.size) (L : List (Int × Int)) (hL : l ++ m = L)
    (h : ∀ A c w', w'.ownsRow lo 44 2 (.slice A L.length c) L.length (cP L) → Below lo w w' → wpList Tryz.prog ops Q rest (a.put o.dst (.slice A L.length c)) w') : wpList Tryz.prog ops Q (o :: rest) a w :=
  wpList_plain hgd fun _ hK => wp_app_Ps w s x ho lo v l hs hown vx m hx hr hl hbase L hL fun A c w' h2 h3 => hK _ _ (h A c w' h2 h3)
theorem step_app_Ps (w : World) {ops : Array Oper} {o : Oper} {a : Act} {K : Act → World → Prop} {Q : Exit → Act → World → Prop} {E : Prop} (hgd : o.guard = none) (s x : Operand)
    (ho : o.op = .call { callee := .builtin .append, args := #[s, x], argTypes := #[29, 29] })
    (lo : Nat) (v : Value) (l : List (Int × Int)) (hs : a.eval s = v) (hown : w.ownsRow lo 44 2 v l.length (cP l))
    (vx : Value) (m : List (Int × Int)) (hx : a.eval x = vx) (hr : RdP w vx m) (hl : l.length + m.length ≤ 4194304) (hbase : lo ≤ w.heap.size) (L : List (Int × Int)) (hL : l ++ m = L)
    (h : ∀ A c w', w'.ownsRow lo 44 2 (.slice A L.length c) L.length (cP L) → Below lo w w' → K (a.put o.dst (.slice A L.length c)) w') :
    if Region.wanted o (yielded ops a.tmps) = true then Oper.wp Tryz.prog o a w K Q else E := by
  have hw : Region.wanted o (yielded ops a.tmps) = true := by simp [Region.wanted, hgd]
  rw [if_pos hw]
  exact wp_app_Ps w s x ho lo v l hs hown vx m hx hr hl hbase L hL h
theorem copyPins_any (v : Value) (l : List (Int × Int)) (w : World) (h1 : RdP w v l) (hl : l.length ≤ 1048576) :
    Calls Tryz.prog 39 #[v] w (NewRow 44 2 l.length (cP l) w) := by
  go_enter Tryz.func39, Tryz.ntmps39
  go_wp2_with (at_builtin; refine wpList_app_Ps _ rfl _ _ rfl w.heap.size _ [] rfl (by exact World.ownsRow_made w #[] 0 (Nat.le_refl _) (by unfold maxLen; omega) rfl) _ l rfl (h1.bl (by (repeat' (first | (with_reducible exact Below.refl _ _) | (with_reducible refine bl_alloc ?_ _) | (with_reducible refine bl_drewN ?_ _) | (with_reducible refine bl_drew ?_) | (with_reducible assumption) | (with_reducible refine bl_to ?_ (by assumption)) | (with_reducible refine Below.trans ?_ (by assumption)) | (with_reducible refine Below.trans ?_ (Below.mono (by assumption) ?_)) | (with_reducible refine bl_set ?_ ?_ _) | (simp; done) | (simp; omega) | omega)))) (by simp; omega) (by simp) l rfl ?_; intro A c w' ow' b')
  go_ret
  exact ⟨A, c, rfl, ow', by (repeat' (first | (with_reducible exact Below.refl _ _) | (with_reducible refine bl_alloc ?_ _) | (with_reducible refine bl_drewN ?_ _) | (with_reducible refine bl_drew ?_) | (with_reducible assumption) | (with_reducible refine bl_to ?_ (by assumption)) | (with_reducible refine Below.trans ?_ (by assumption)) | (with_reducible refine Below.trans ?_ (Below.mono (by assumption) ?_)) | (with_reducible refine bl_set ?_ ?_ _) | (simp; done) | (simp; omega) | omega))⟩
end Go.Proofs.YthgllpocljeegaaGreatDoor
