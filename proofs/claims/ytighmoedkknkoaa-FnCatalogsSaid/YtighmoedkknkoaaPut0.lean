/- Where PutEntry puts an entry: the plain law; no condition. -/
import Derived.Test.YtighmoedkknkoaaFind
namespace Go.Proofs.Ytighmoedkknkoaa
open Go.RowKit

theorem bytesLess_trans {a b c : List UInt8} (h1 : Op.bytesLess a b = true) (h2 : Op.bytesLess b c = true) : Op.bytesLess a c = true := by
  induction a generalizing b c with
  | nil =>
    cases c with
    | nil => cases b <;> simp [Op.bytesLess] at h1 h2
    | cons z c => rfl
  | cons x a ih =>
    cases b with
    | nil => simp [Op.bytesLess] at h1
    | cons y b =>
      cases c with
      | nil => simp [Op.bytesLess] at h2
      | cons z c =>
        simp only [Op.bytesLess, Bool.or_eq_true, decide_eq_true_eq, Bool.and_eq_true, beq_iff_eq] at h1 h2 ⊢
        rcases h1 with h1 | ⟨rfl, h1⟩
        · rcases h2 with h2 | ⟨rfl, h2⟩
          · exact .inl (UInt8.lt_trans h1 h2)
          · exact .inl h1
        · rcases h2 with h2 | ⟨rfl, h2⟩
          · exact .inl h2
          · exact .inr ⟨rfl, ih h1 h2⟩
theorem ltS_trans {a b c : ByteArray} (h1 : ltS a b = true) (h2 : ltS b c = true) : ltS a c = true := bytesLess_trans h1 h2
theorem ltS_irrefl (a : ByteArray) : ltS a a = false := bytesLess_irrefl _
theorem ltS_same {a b c : ByteArray} (h : a.toList = b.toList) : ltS c a = ltS c b ∧ ltS a c = ltS b c := by simp [ltS, h]
/-- with one entry more, at p -/
def insL {α : Type} (l : List α) (p : Nat) (x : α) : List α := l.take p ++ [x] ++ l.drop p
theorem insL_len {α : Type} (l : List α) (p : Nat) (x : α) : (insL l p x).length = l.length + 1 := by
  rw [insL, List.length_append, List.length_append, List.length_take, List.length_drop, List.length_singleton]; omega
theorem insL_get {α : Type} {l : List α} {p : Nat} (hp : p ≤ l.length) (x d : α) (j : Nat) : (insL l p x).getD j d = if j < p then l.getD j d else if j = p then x else l.getD (j - 1) d := by
  rw [insL, List.getD_eq_getElem?_getD]
  by_cases h1 : j < p
  · rw [if_pos h1, List.append_assoc, List.getElem?_append_left (by rw [List.length_take]; omega), List.getElem?_take, if_pos h1, List.getD_eq_getElem?_getD]
  · rw [if_neg h1]
    by_cases h2 : j = p
    · subst h2
      rw [if_pos rfl, List.append_assoc, List.getElem?_append_right (by rw [List.length_take]; omega), List.length_take, Nat.min_eq_left hp, Nat.sub_self]
      rfl
    · rw [if_neg h2, List.getElem?_append_right (by rw [List.length_append, List.length_take, List.length_singleton]; omega), List.length_append, List.length_take, List.length_singleton, List.getElem?_drop, List.getD_eq_getElem?_getD]
      congr 2
      omega
def posI (l : List En) (s : ByteArray) : Nat := l.findIdx fun x => !ltS x.1 s
def posS (l : List En) (s : ByteArray) : Nat := l.findIdx fun x => ltS s x.1
def putQ (l : List En) (e : En) : Bool := catB l && decide (fndF l e.1 < 0) && catB (insL l (posI l e.1) e)
def putL (l : List En) (e : En) : List En := if putQ l e then insL l (posI l e.1) e else l
theorem findIdx_same {α : Type} {P Q : α → Bool} {l : List α} (h : ∀ x ∈ l, P x = Q x) : l.findIdx P = l.findIdx Q := by
  induction l with
  | nil => rfl
  | cons x l ih => rw [List.findIdx_cons, List.findIdx_cons, h x (by simp), ih (fun y hy => h y (by simp [hy]))]
theorem idx_no {P : En → Bool} {l : List En} {k : Nat} (h : k < l.findIdx P) : P (gE l k) = false := by
  have hk : k < l.length := Nat.lt_of_lt_of_le h List.findIdx_le_length
  rw [gE_eq hk]
  exact Bool.eq_false_iff.2 (by simpa using List.not_of_lt_findIdx h)
theorem idx_yes {P : En → Bool} {l : List En} (h : l.findIdx P < l.length) : P (gE l (l.findIdx P)) = true := by
  rw [gE_eq h]
  exact List.findIdx_getElem
theorem fndN_none {l : List En} {s : ByteArray} {n : Nat} (h : fndN l s n < 0) : ∀ k, k < n → nmB l s k = false := by
  induction n with
  | zero => intro k hk; omega
  | succ n ih =>
    intro k hk
    rw [fndN] at h
    by_cases h1 : 0 ≤ fndN l s n
    · rw [if_pos h1] at h; omega
    · rw [if_neg h1] at h
      by_cases e : k = n
      · subst e
        cases hb : nmB l s k with
        | false => rfl
        | true => rw [hb, if_pos rfl] at h; omega
      · exact ih (by omega) k (by omega)
theorem fndN_some {l : List En} {s : ByteArray} {n : Nat} (h : 0 ≤ fndN l s n) : ∃ k, k < n ∧ nmB l s k = true := by
  induction n with
  | zero => simp [fndN] at h
  | succ n ih =>
    rw [fndN] at h
    by_cases h1 : 0 ≤ fndN l s n
    · obtain ⟨k, hk, hb⟩ := ih h1; exact ⟨k, by omega, hb⟩
    · rw [if_neg h1] at h
      cases hb : nmB l s n with
      | true => exact ⟨n, by omega, hb⟩
      | false => rw [hb] at h; simp at h
theorem catB_iff {l : List En} : catB l = true ↔ l.length ≤ 20 ∧ okC l l.length = true := by simp [catB]
theorem catB_lt {l : List En} (h : catB l = true) {i j : Nat} (hij : i < j) (hj : j < l.length) : ltS (gE l i).1 (gE l j).1 = true := by
  have hs : ∀ k, 0 < k → k < l.length → ltS (gE l (k - 1)).1 (gE l k).1 = true := fun k h0 hk => by
    have := okC_at (catB_iff.1 h).2 hk
    simp [enB] at this
    rcases this.2 with h1 | h1
    · omega
    · exact h1
  induction j with
  | zero => omega
  | succ j ih =>
    by_cases e : i = j
    · subst e; exact hs (i + 1) (by omega) hj
    · exact ltS_trans (ih (by omega) (by omega)) (hs (j + 1) (by omega) hj)
theorem put_spec (l : List En) (e : En) : (catB l && catB (insL l (posS l e.1) e)) = putQ l e ∧ (putQ l e = true → posS l e.1 = posI l e.1) := by
  cases hc : catB l with
  | false => simp [putQ, hc]
  | true =>
    by_cases hf : fndF l e.1 < 0
    · have hn : ∀ k, k < l.length → nmB l e.1 k = false := fndN_none (by rw [fndF, hc, if_pos rfl] at hf; exact hf)
      have hp : posS l e.1 = posI l e.1 := findIdx_same fun x hx => by
        obtain ⟨k, hk, rfl⟩ := List.getElem_of_mem hx
        have h1 := hn k hk
        have h2 := bytesLess_tri l[k].1.toList e.1.toList
        rw [nmB, gE_eq hk] at h1
        have h3 : (e.1.toList == l[k].1.toList) = false := by
          rw [beq_eq_false_iff_ne] at h1 ⊢
          exact fun q => h1 q.symm
        rw [h3, Bool.or_false] at h2
        exact h2
      exact ⟨by rw [putQ, hc, hp]; simp [hf], fun _ => hp⟩
    · have hq : putQ l e = false := by simp [putQ, hf]
      refine ⟨?_, fun h => by rw [hq] at h; cases h⟩
      rw [hq]
      obtain ⟨j, hj, hb⟩ := fndN_some (n := l.length) (l := l) (s := e.1) (by rw [fndF, hc, if_pos rfl] at hf; omega)
      have he : (gE l j).1.toList = e.1.toList := by simpa [nmB] using hb
      have hno : ∀ k, k ≤ j → ltS e.1 (gE l k).1 = false := fun k hk => by
        rw [← (ltS_same (c := (gE l k).1) he).2]
        by_cases q : k = j
        · rw [q]; exact ltS_irrefl _
        · have h1 := catB_lt hc (show k < j by omega) hj
          cases h2 : ltS (gE l j).1 (gE l k).1 with
          | false => rfl
          | true => have := ltS_trans h1 h2; rw [ltS_irrefl] at this; cases this
      have hp0 : posS l e.1 ≤ l.length := List.findIdx_le_length
      have hp1 : j < posS l e.1 := by
        rcases Nat.lt_or_ge j (posS l e.1) with h | h
        · exact h
        · have h2 := idx_yes (P := fun x => ltS e.1 x.1) (l := l) (Nat.lt_of_le_of_lt h hj)
          have h3 := hno (posS l e.1) h
          simp only [posS] at h2 h3
          rw [h2] at h3; cases h3
      have hpj : posS l e.1 = j + 1 := by
        rcases Nat.lt_or_ge (j + 1) (posS l e.1) with h | h
        · have h2 := idx_no (P := fun x => ltS e.1 x.1) (l := l) (k := j + 1) h
          have h3 := catB_lt hc (show j < j + 1 by omega) (show j + 1 < l.length by omega)
          rw [(ltS_same (c := (gE l (j + 1)).1) he).2, h2] at h3; cases h3
        · omega
      have hbad : enB (insL l (posS l e.1) e) (posS l e.1) = false := by
        have h1 : gE (insL l (posS l e.1) e) (posS l e.1) = e := by rw [gE, insL_get hp0, if_neg (by omega), if_pos rfl]
        have h2 : gE (insL l (posS l e.1) e) (posS l e.1 - 1) = gE l j := by rw [gE, insL_get hp0, if_pos (by omega), hpj]; rfl
        have h3 : ltS (gE l j).1 e.1 = false := by rw [← (ltS_same (c := (gE l j).1) he).1]; exact ltS_irrefl _
        simp only [enB, h1, h2, h3]
        simp
        omega
      have : catB (insL l (posS l e.1) e) = false := by
        rw [catB, okC_no (k := posS l e.1) (by rw [insL_len]; omega) hbad, Bool.and_false]
      rw [this]; rfl
theorem szE_ins (l : List En) (p : Nat) (e : En) : szE (insL l p e) = szE l + (e.1.size + e.2.length) := by
  have h := szE_append (l.take p) (l.drop p)
  rw [List.take_append_drop] at h
  rw [insL, szE_append, szE_append, h, szE, szE]
  omega
theorem putL_sz (l : List En) (e : En) : (putL l e).length + szE (putL l e) ≤ l.length + szE l + (e.1.size + e.2.length) + 1 := by
  unfold putL
  split
  · rw [insL_len, szE_ins]; omega
  · omega
end Go.Proofs.Ytighmoedkknkoaa
