/- 'append(v, s)' at slices of strings of the call's own; lengths up to 4000000. -/
import Derived.Test.YthgllpocljeegaaGreatDoorRowStr
namespace Go.Proofs.YthgllpocljeegaaGreatDoor
open Go.RowKit

theorem wpList_app_S (w : World) {ops : Array Oper} {rest : List Oper} {o : Oper} {a : Act} {Q : Exit → Act → World → Prop} (hgd : o.guard = none) (s x : Operand)
    (ho : o.op = .call { callee := .builtin .append, args := #[s, x], argTypes := #[33, 33] })
    (lo : Nat) (v : Value) (l : List ByteArray) (hs : a.eval s = v) (hown : w.ownsRow lo 9 1 v l.length (cS l))
    (g : Nat) (y : ByteArray) (hx : a.eval x = .slice (some ⟨g, 0, none⟩) 1 1) (hc0 : w.cell? ⟨g, 0, none⟩ = some (.string y)) (hl : l.length ≤ 4000000) (hbase : lo ≤ w.heap.size) (L : List ByteArray) (hL : l ++ [y] = L)
    (h : ∀ A c w', w'.ownsRow lo 9 1 (.slice A L.length c) L.length (cS L) → Below lo w w' → wpList Tryz.prog ops Q rest (a.put o.dst (.slice A L.length c)) w') : wpList Tryz.prog ops Q (o :: rest) a w := by
  subst hL
  obtain ⟨i0, hi0, hz0, hz1, hz2⟩ := info_parts info_str
  refine wpList_append_own w hgd s x 33 ho lo 9 i0 (.string ⟨#[]⟩) 1 16 Tryz.underlying33 hi0 hz0 hz1 hz2 rfl (by decide) v l.length (cS l) hs hown ⟨g, 0, none⟩ 1 1 [.string y] hx rfl ?_ ?_ (by unfold maxLen; omega) (by omega) hbase ?_
  · intro j u hj
    match j, hj with
    | 0, hj => simp at hj; subst hj; simpa [Addr.add] using hc0
  · intro u hu
    simp at hu
    subst hu
    rfl
  · intro v' w' own' gr _
    rw [show l.length + 1 = (l ++ [y]).length by simp, show cS l ++ [.string y] = cS (l ++ [y]) by rw [cS_append]; rfl] at own'
    obtain ⟨A, c, rfl⟩ := own_form own'
    exact h A c w' own' ((Below.refl lo w).grown gr hbase (fun k hk => (hown.lt k hk).1))
end Go.Proofs.YthgllpocljeegaaGreatDoor
