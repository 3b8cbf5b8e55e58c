/- Slices that read as lists; the helpers of the laws on slices of ints (copy, compare, mark, look again); lengths up to 2^20. -/
import Derived.Test.YthgllpocljeegaaGreatDoorBase
import Derived.Laws.OwnMore
import Derived.BigQuiet
import Derived.Deep.QuietTactic
import Derived.Laws.AppendOwnNone
namespace Go.Proofs.YthgllpocljeegaaGreatDoor
open Go.RowKit

/-- the slice value v has n elements of s cells each, whose cells are xs -/
def Rd (w : World) (s : Nat) (v : Value) (n : Nat) (xs : List Value) : Prop :=
  xs.length = n * s ∧ ∃ A c, v = .slice A n c ∧ n ≤ c ∧ c ≤ maxLen ∧ (A = none → c = 0) ∧ (0 < n → ∃ b o, A = some ⟨b, o, none⟩ ∧ b < w.heap.size ∧ ∀ j u, xs[j]? = some u → w.cell? ⟨b, o + j, none⟩ = some u)

section
variable {w W w' : World} {s n : Nat} {v : Value} {xs : List Value} {A : Option Addr} {c : Nat}
theorem Rd.form (h : Rd w s v n xs) : ∃ A c, v = .slice A n c ∧ n ≤ c ∧ c ≤ maxLen := by
  obtain ⟨_, A, c, hv, h1, h2, _⟩ := h
  exact ⟨A, c, hv, h1, h2⟩
theorem Rd.look (h : Rd w s (.slice A n c) n xs) (hn : 0 < n) : ∃ b o, A = some ⟨b, o, none⟩ ∧ b < w.heap.size ∧ ∀ j u, xs[j]? = some u → w.cell? ⟨b, o + j, none⟩ = some u := by
  obtain ⟨_, A', c', hv, _, _, _, h3⟩ := h
  obtain ⟨rfl, _, rfl⟩ : A = A' ∧ n = n ∧ c = c' := by simpa using hv
  exact h3 hn
theorem Rd.none_ (h : Rd w s (.slice none n c) n xs) : c = 0 := by
  obtain ⟨_, A', c', hv, _, _, h3, _⟩ := h
  obtain ⟨rfl, _, rfl⟩ : none = A' ∧ n = n ∧ c = c' := by simpa using hv
  exact h3 rfl
theorem Rd.bl (h : Rd w s v n xs) (b : Below w.heap.size w W) : Rd W s v n xs := by
  obtain ⟨h0, A, c, hv, h1, h2, h4, h3⟩ := h
  refine ⟨h0, A, c, hv, h1, h2, h4, fun hn => ?_⟩
  obtain ⟨g, o, hA, hb, hc⟩ := h3 hn
  exact ⟨g, o, hA, Nat.lt_of_lt_of_le hb b.size, fun j u hu => (b.cell (p := ⟨g, o + j, none⟩) hb).trans (hc j u hu)⟩
theorem Rd.nil (w : World) (s : Nat) : Rd w s (.slice none 0 0) 0 [] := ⟨by simp, none, 0, rfl, Nat.le_refl _, by unfold maxLen; omega, fun _ => rfl, fun h => absurd h (by omega)⟩
theorem Rd.of_own {lo : Nat} {e : TypeId} (h : w.ownsRow lo e s v n xs) : Rd w s v n xs := by
  have h' := h
  obtain ⟨h0, h1⟩ := h
  rcases h1 with ⟨rfl, rfl⟩ | ⟨g, cap, cur, rfl, hlo, hg, hnc, hcm, hcs, htake⟩
  · exact ⟨h0, none, 0, rfl, Nat.le_refl _, by unfold maxLen; omega, fun _ => rfl, fun h => absurd h (by omega)⟩
  · refine ⟨h0, _, cap, rfl, hnc, hcm, fun h => by simp at h, fun _ => ⟨g, 0, rfl, (Array.getElem?_eq_some_iff.1 hg).1, fun j u hu => ?_⟩⟩
    have hj : j < n * s := by
      rw [← h0]
      rcases Nat.lt_or_ge j xs.length with h | h
      · exact h
      · rw [List.getElem?_eq_none h] at hu; cases hu
    rw [Nat.zero_add, h'.cellAt j hj]
    exact hu
theorem own_bl {lo : Nat} {e : TypeId} (h : w.ownsRow lo e s v n xs) (b : Below w.heap.size w W) : W.ownsRow lo e s v n xs :=
  h.kept (row := none) ⟨b.os, b.tape, b.output, b.size, fun k hk _ => b.block k hk⟩ (by cases v.ownBlock <;> simp)
theorem own_bl2 {lo : Nat} {e : TypeId} (b : Below w.heap.size w W) (h : w.ownsRow lo e s v n xs) : W.ownsRow lo e s v n xs := own_bl h b
theorem own_form {lo : Nat} {e : TypeId} (h : w.ownsRow lo e s v n xs) : ∃ A c, v = .slice A n c := by
  obtain ⟨A, c, h, _⟩ := (Rd.of_own h).form
  exact ⟨A, c, h⟩
theorem own_drewN {lo : Nat} {e : TypeId} (h : w.ownsRow lo e s v n xs) (k : Nat) : (w.drewN k).ownsRow lo e s v n xs := h
/-- an empty slice in a new block, 'T' with no element -/
theorem own_new0 {lo g : Nat} {e : TypeId} (h : lo ≤ g) (hg : w.heap.size = g) : (w.alloc (.cells #[] e)).ownsRow lo e s (.slice (some ⟨g, 0, none⟩) 0 0) 0 [] := by
  subst hg
  exact World.ownsRow_made w #[] 0 h (by unfold maxLen; omega) (by simp)
theorem own_new0d {lo g : Nat} {e : TypeId} (h : lo ≤ g) (hg : w.heap.size = g) : (w.alloc (.cells #[] e)).drew.ownsRow lo e s (.slice (some ⟨g, 0, none⟩) 0 0) 0 [] := own_new0 h hg
/-- a row made later is another row -/
theorem own_ne {lo : Nat} {e e' : TypeId} {s' n' : Nat} {v' : Value} {xs' : List Value} (h : w.ownsRow lo e s v n xs) (h' : W.ownsRow w.heap.size e' s' v' n' xs') : v.ownBlock = none ∨ v.ownBlock ≠ v'.ownBlock := by
  cases hv : v.ownBlock with
  | none => exact .inl rfl
  | some k =>
    refine .inr fun he => ?_
    have h1 := (h.lt k hv).2
    have h2 := (h'.lt k he.symm).1
    omega
theorem own_lo {lo lo' : Nat} {e : TypeId} (h : w.ownsRow lo e s v n xs) (hl : lo' ≤ lo) : w.ownsRow lo' e s v n xs := by
  obtain ⟨h0, h1⟩ := h
  refine ⟨h0, ?_⟩
  rcases h1 with h1 | ⟨g, cap, cur, hv, hlo, r⟩
  · exact .inl h1
  · exact .inr ⟨g, cap, cur, hv, by omega, r⟩
end

theorem cell_grown {w w' : World} {r : Option Nat} (g : w.grownBy w' r) {B : Nat} (h : B < w.heap.size) (hne : ∀ k, r = some k → B ≠ k) (o : Nat) : w'.cell? ⟨B, o, none⟩ = w.cell? ⟨B, o, none⟩ :=
  World.cell?_of_block (g.block B h (fun e => hne B e.symm rfl))
theorem own_apart {vy vx : Value} {a b c d : Nat} (hy : ∀ k, vy.ownBlock = some k → a ≤ k ∧ k < b) (hx : ∀ k, vx.ownBlock = some k → c ≤ k ∧ k < d) (h : b ≤ c ∨ d ≤ a) : vy.ownBlock = none ∨ vy.ownBlock ≠ vx.ownBlock := by
  cases e : vy.ownBlock with
  | none => exact .inl rfl
  | some k =>
    refine .inr fun he => ?_
    have h1 := hy k e
    have h2 := hx k he.symm
    omega

/-- the call made a row of n elements of type e, s cells each, whose cells are xs, and turned nothing that was there -/
def NewRow (e s : Nat) (n : Nat) (xs : List Value) (w : World) (en : Ending) (w' : World) : Prop :=
  ∃ A c, en = .returned (.slice A n c) ∧ w'.ownsRow w.heap.size e s (.slice A n c) n xs ∧ Below w.heap.size w w'

theorem take_succ_set {α : Type} (l r : List α) (k : Nat) (hk : k < l.length) (hr : r.length = l.length) :
    (l.take k ++ r.drop k).set k l[k] = l.take (k + 1) ++ r.drop (k + 1) := by
  apply List.ext_getElem?
  intro i
  rw [List.getElem?_set]
  by_cases h : k = i
  · subst h
    rw [if_pos rfl, if_pos (by simp; omega), List.getElem?_append_left (by simp; omega)]
    simp [hk]
  · rw [if_neg h]
    rcases Nat.lt_or_ge i k with hi | hi
    · rw [List.getElem?_append_left (by simp; omega), List.getElem?_append_left (by simp; omega), List.getElem?_take, List.getElem?_take, if_pos hi, if_pos (by omega)]
    · rw [List.getElem?_append_right (by simp; omega), List.getElem?_append_right (by simp; omega), List.getElem?_drop, List.getElem?_drop]
      congr 1
      simp
      omega

/-- 'append(v, x...)': v a row of the call's own, x any slice of the same element type -/
theorem wp_app_rd (w : World) {o : Oper} {a : Act} {K : Act → World → Prop} {Q : Exit → Act → World → Prop} (s x : Operand) (t : TypeId)
    (ho : o.op = .call { callee := .builtin .append, args := #[s, x], argTypes := #[t, t] })
    (lo : Nat) (e : TypeId) (i : TypeInfo) (z : Value) (size bytes : Nat) (ht : Tryz.prog.underlying t = some (.slice e)) (hi : Tryz.prog.info? e = some i) (hz : i.zero = some z)
    (hsize : i.size = size) (hby : i.bytes = bytes) (hzs : z.cells.size = size) (hsz : 0 < size)
    (v : Value) (n : Nat) (xs : List Value) (hs : a.eval s = v) (hown : w.ownsRow lo e size v n xs)
    (vx : Value) (m : Nat) (news : List Value) (hx : a.eval x = vx) (hr : Rd w size vx m news) (h1 : ∀ u ∈ news, u.oneCell' = true)
    (h63 : n + m ≤ 4194304) (hb64 : bytes ≤ 64) (hbase : lo ≤ w.heap.size)
    (h : ∀ v' w', w'.ownsRow lo e size v' (n + m) (xs ++ news) → Below lo w w' → K (a.put o.dst v') w') : o.wp Tryz.prog a w K Q := by
  obtain ⟨A, c, rfl, hmc, hcm⟩ := hr.form
  have hbb : (n + m) * bytes ≤ 140737488355328 := by
    have := Nat.mul_le_mul h63 hb64
    omega
  rcases A with _ | ad
  · have hc := hr.none_
    subst hc
    obtain rfl : m = 0 := by omega
    have hn : news = [] := List.eq_nil_of_length_eq_zero (by simpa using hr.1)
    subst hn
    have hrun := run_append_owned_none (P := Tryz.prog) (w := w) lo t o.type e i size ht hi v n xs hown
    unfold Oper.wp
    simp [execOp, ho, resolve, invoke, builtin, hs, hx, hrun, Result.andThen]
    exact h v w (by rw [Nat.add_zero, List.append_nil]; exact hown) (Below.refl _ _)
  · refine wp_append_own w s x t ho lo e i z size bytes ht hi hz hsize hby hzs hsz v n xs hs hown ad m c news hx hr.1 ?_ h1 (by unfold maxLen; omega) hbb hbase ?_
    · intro j u hu
      have hm : 0 < m := by
        rcases Nat.eq_zero_or_pos m with h0 | h0
        · subst h0
          have hn : news = [] := List.eq_nil_of_length_eq_zero (by simpa using hr.1)
          subst hn
          simp at hu
        · exact h0
      obtain ⟨b, o', hA, _, hc⟩ := hr.look hm
      obtain rfl : ad = ⟨b, o', none⟩ := Option.some.inj hA
      have : (⟨b, o', none⟩ : Addr).add j = ⟨b, o' + j, none⟩ := by unfold Addr.add; split <;> simp_all
      rw [this]
      exact hc j u hu
    · intro v' w' own' gr _
      exact h v' w' own' ((Below.refl lo w).grown gr hbase (fun k hk => (hown.lt k hk).1))

/-! ## ints -/
def cI (l : List Int) : List Value := l.map (Value.int .i64)
def gi (l : List Int) (k : Nat) : Int := l.getD k 0
def RdI (w : World) (v : Value) (l : List Int) : Prop := Rd w 1 v l.length (cI l)
theorem cI_len (l : List Int) : (cI l).length = l.length := by simp [cI]
theorem cI_get {l : List Int} {k : Nat} (h : k < l.length) : (cI l)[k]? = some (.int .i64 (gi l k)) := by simp [cI, gi, h]
theorem gi_eq {l : List Int} {k : Nat} (h : k < l.length) : gi l k = l[k] := by simp [gi, h]
theorem gi_mem {l : List Int} {k : Nat} (h : k < l.length) : gi l k ∈ l := by rw [gi_eq h]; exact List.getElem_mem h
theorem cI_append (l m : List Int) : cI (l ++ m) = cI l ++ cI m := by simp [cI]
theorem cI_set (l : List Int) (k : Nat) (x : Int) : (cI l).set k (.int .i64 x) = cI (l.set k x) := by simp [cI, List.map_set]
theorem cI_one (l : List Int) : ∀ u ∈ cI l, u.oneCell' = true := by
  intro u hu
  simp only [cI, List.mem_map] at hu
  obtain ⟨x, _, rfl⟩ := hu
  rfl
theorem info_int : (Tryz.prog.info? 3).map (fun i => (i.zero, i.size, i.bytes)) = some (some (.int .i64 0), 1, 8) := by kernel_rfl
theorem take_succ_gi {l : List Int} {k : Nat} (h : k < l.length) : l.take (k + 1) = l.take k ++ [gi l k] := by
  rw [List.take_succ_eq_append_getElem h, gi_eq h]

theorem all_take_succ {P : Int → Bool} {l : List Int} {k : Nat} (h : k < l.length) : (l.take (k + 1)).all P = ((l.take k).all P && P (gi l k)) := by
  rw [take_succ_gi h, List.all_append]
  simp
theorem all_no {P : Int → Bool} {l : List Int} {k : Nat} (h : k < l.length) (hp : P (gi l k) = false) : l.all P = false := by
  cases ha : l.all P with
  | false => rfl
  | true => rw [List.all_eq_true] at ha; rw [ha _ (gi_mem h)] at hp; cases hp
theorem all_at {P : Int → Bool} {l : List Int} {k : Nat} (h : k < l.length) (ha : l.all P = true) : P (gi l k) = true := by
  rw [List.all_eq_true] at ha
  exact ha _ (gi_mem h)

/-- a quiet call behind a quiet region (the caller's world on the left) -/
theorem quiet_add_left {P : Program} {f : FuncId} {args : Array Value} {w : World} {a n : Nat} {v : Value}
    (h : Calls P f args (w.drewN (a + n)) fun e w' => e = .returned v ∧ w.drewN (a + n) = w') :
    Calls P f args (w.drewN (a + n)) fun e w'' => e = .returned v ∧ ∃ m, w'' = w.drewN (a + m) :=
  h.mono fun _ _ ⟨he, hm⟩ => ⟨he, n, hm.symm⟩
theorem quiet_left {P : Program} {f : FuncId} {args : Array Value} {w : World} {n : Nat} {v : Value}
    (h : Calls P f args (w.drewN n) fun e w' => e = .returned v ∧ w.drewN n = w') : Calls P f args (w.drewN n) fun e w'' => e = .returned v ∧ ∃ m, w'' = w.drewN m :=
  h.mono fun _ _ ⟨he, hm⟩ => ⟨he, n, hm.symm⟩



/-- k, k+1, .. -/
def upI (k : Int) (n : Nat) : List Int := (List.range n).map fun (i : Nat) => k + (i : Int)
theorem upI_len (k : Int) (n : Nat) : (upI k n).length = n := by simp [upI]
theorem upI_get {k : Int} {n i : Nat} (h : i < n) : gi (upI k n) i = k + i := by simp [gi, upI, h]
theorem upI_get' {k : Int} {n i : Nat} (h : i < (upI k n).length) : (upI k n)[i] = k + i := by simp [upI]



/-- a guard for an arm: the operation is an append of these operands -/
theorem step_is_append {w : World} {ops : Array Oper} {o : Oper} {a : Act} {K : Act → World → Prop} {Q : Exit → Act → World → Prop} {E : Prop} (s x : Operand) (t : TypeId)
    (_ho : o.op = .call { callee := .builtin .append, args := #[s, x], argTypes := #[t, t] })
    (h : if Region.wanted o (yielded ops a.tmps) = true then Oper.wp Tryz.prog o a w K Q else E) : if Region.wanted o (yielded ops a.tmps) = true then Oper.wp Tryz.prog o a w K Q else E := h

end Go.Proofs.YthgllpocljeegaaGreatDoor
