/- Late jobs: the plain law; no condition. -/
import Derived.Test.YtloienidakomdaaDue0
import Derived.Test.YtloienidakomdaaJobs
namespace Go.Proofs.Ytloienidakomdaa
open Go.RowKit

def dueK (l : List (Int × Int × Int)) (x : Int) : Int := (gJ l x.toNat).2.1
def endN (l : List (Int × Int × Int)) (o : List Int) : Nat → Int
  | 0 => 0
  | k + 1 => endN l o k + (gJ l (gi o k).toNat).1
def stpP (o : List Int) (n k : Nat) : Bool := decide (0 ≤ gi o k) && decide (gi o k < (n : Int)) && !((o.take k).contains (gi o k))
/-- the first k are from 0 to n, each once -/
def okP (o : List Int) (n : Nat) : Nat → Bool
  | 0 => true
  | k + 1 => okP o n k && stpP o n k
def permB (o : List Int) (n : Nat) : Bool := decide (o.length = n) && okP o n n
def lateN (l : List (Int × Int × Int)) (o : List Int) : Nat → List Int
  | 0 => []
  | k + 1 => if dueK l (gi o k) < endN l o (k + 1) then lateN l o k ++ [gi o k] else lateN l o k
def endE (l : List (Int × Int × Int)) (o : List Int) : Nat → List Int
  | 0 => List.replicate l.length 0
  | k + 1 => (endE l o k).set (gi o k).toNat (endN l o (k + 1))
def lateS (l : List (Int × Int × Int)) (E : List Int) : Nat → List Int
  | 0 => []
  | j + 1 => if dueK l (j : Int) < gi E j then lateS l E j ++ [(j : Int)] else lateS l E j
/-- the first k of M, ascending -/
def srtG (M : List Int) : Nat → List Int
  | 0 => []
  | k + 1 => insD id (srtG M k) (gi M k)
def lateF (l : List (Int × Int × Int)) (o : List Int) : List Int := if jobsB l && permB o l.length then lateS l (endE l o l.length) l.length else []

theorem okP_at {o : List Int} {n m k : Nat} (h : okP o n m = true) (hk : k < m) : stpP o n k = true := by
  induction m with
  | zero => omega
  | succ m ih =>
    rw [okP, Bool.and_eq_true] at h
    by_cases e : k = m
    · rw [e]; exact h.2
    · exact ih h.1 (by omega)
theorem okP_no {o : List Int} {n m k : Nat} (hk : k < m) (h : stpP o n k = false) : okP o n m = false := by
  cases ho : okP o n m with
  | false => rfl
  | true => rw [okP_at ho hk] at h; cases h
theorem okP_all {o : List Int} {n m : Nat} (h : ∀ k, k < m → stpP o n k = true) : okP o n m = true := by
  induction m with
  | zero => rfl
  | succ m ih => rw [okP, ih (fun k hk => h k (by omega)), h m (by omega)]; rfl
theorem stpP_iff {o : List Int} {n k : Nat} : stpP o n k = true ↔ (0 ≤ gi o k ∧ gi o k < (n : Int)) ∧ gi o k ∉ o.take k := by
  simp [stpP]
theorem mem_take_gi {o : List Int} {k : Nat} {x : Int} (hk : k ≤ o.length) : x ∈ o.take k ↔ ∃ i, i < k ∧ x = gi o i := by
  constructor
  · intro h
    obtain ⟨i, hi, e⟩ := List.mem_iff_getElem.1 h
    simp at hi
    exact ⟨i, by omega, by rw [gi_eq (by omega), ← e, List.getElem_take]⟩
  · rintro ⟨i, hi, rfl⟩
    rw [gi_eq (by omega)]
    exact List.mem_iff_getElem.2 ⟨i, by simp; omega, by rw [List.getElem_take]⟩
theorem posD_spec (d : Int → Int) (L : List Int) (x : Int) (m : Nat) : (∀ a, posD d L x m ≤ a → a < m → d x < d (gi L a)) ∧ (posD d L x m = 0 ∨ ¬ d x < d (gi L (posD d L x m - 1))) := by
  induction m with
  | zero => exact ⟨fun a _ h => by omega, .inl rfl⟩
  | succ m ih =>
    unfold posD
    split
    · rename_i h
      refine ⟨fun a h1 h2 => ?_, ih.2⟩
      by_cases e : a = m
      · rw [e]; exact h
      · exact ih.1 a h1 (by omega)
    · rename_i h
      exact ⟨fun a h1 h2 => by omega, .inr (by simpa using h)⟩
theorem ins_sorted {L : List Int} {x : Int} (h : L.Pairwise (· < ·)) (hx : x ∉ L) : (insD id L x).Pairwise (· < ·) := by
  obtain ⟨p1, p2⟩ := posD_spec id L x L.length
  have p3 := posD_le id L x L.length
  unfold insD mv
  generalize posD id L x L.length = p at *
  have hlt : ∀ a b, a < b → b < L.length → gi L a < gi L b := fun a b hab hb => by
    rw [gi_eq (by omega), gi_eq hb]
    exact List.pairwise_iff_getElem.1 h a b (by omega) hb hab
  have h1 : ∀ a ∈ L.take p, a < x := by
    intro a ha
    obtain ⟨i, hi, rfl⟩ := (mem_take_gi p3).1 ha
    have hne : gi L (p - 1) ≠ x := fun e => hx (e ▸ gi_mem (by omega))
    rcases p2 with h0 | h0
    · omega
    · simp only [id] at h0
      by_cases e : i = p - 1
      · rw [e]; omega
      · have := hlt i (p - 1) (by omega) (by omega)
        omega
  have h2 : ∀ b ∈ L.drop p, x < b := by
    intro b hb
    obtain ⟨i, hi, e⟩ := List.mem_iff_getElem.1 hb
    simp at hi
    rw [List.getElem_drop] at e
    have := p1 (p + i) (by omega) (by omega)
    rw [gi_eq (by omega), e] at this
    exact this
  rw [List.pairwise_append, List.pairwise_cons]
  refine ⟨h.sublist (List.take_sublist _ _), ⟨h2, h.sublist (List.drop_sublist _ _)⟩, fun a ha b hb => ?_⟩
  rcases List.mem_cons.1 hb with rfl | hb
  · exact h1 a ha
  · have := h1 a ha
    have := h2 b hb
    omega
theorem srtG_mem {M : List Int} {k : Nat} (hk : k ≤ M.length) {x : Int} : x ∈ srtG M k ↔ x ∈ M.take k := by
  induction k with
  | zero => simp [srtG]
  | succ k ih =>
    rw [srtG, insD, posD_mem, ih (by omega), mem_take_gi hk, mem_take_gi (by omega)]
    constructor
    · rintro (rfl | ⟨i, hi, rfl⟩)
      · exact ⟨k, by omega, rfl⟩
      · exact ⟨i, by omega, rfl⟩
    · rintro ⟨i, hi, rfl⟩
      by_cases e : i = k
      · rw [e]; exact .inl rfl
      · exact .inr ⟨i, by omega, rfl⟩
theorem srtG_sorted {M : List Int} (hn : ∀ i k, i < k → k < M.length → gi M i ≠ gi M k) {k : Nat} (hk : k ≤ M.length) : (srtG M k).Pairwise (· < ·) := by
  induction k with
  | zero => exact List.Pairwise.nil
  | succ k ih =>
    rw [srtG]
    refine ins_sorted (ih (by omega)) ?_
    rw [srtG_mem (by omega), mem_take_gi (by omega)]
    rintro ⟨i, hi, e⟩
    exact hn i k hi (by omega) e.symm
theorem srtG_len (M : List Int) (k : Nat) : (srtG M k).length = k := by
  induction k with
  | zero => rfl
  | succ k ih => rw [srtG, insD, mv_len, ih]
theorem sorted_ext {a b : List Int} (ha : a.Pairwise (· < ·)) (hb : b.Pairwise (· < ·)) (h : ∀ x, x ∈ a ↔ x ∈ b) : a = b := by
  induction a generalizing b with
  | nil =>
    cases b with
    | nil => rfl
    | cons y b => exact absurd ((h y).2 (by simp)) (by simp)
  | cons x a ih =>
    cases b with
    | nil => exact absurd ((h x).1 (by simp)) (by simp)
    | cons y b =>
      rw [List.pairwise_cons] at ha hb
      have hxy : x = y := by
        have h1 := (h x).1 (by simp)
        have h2 := (h y).2 (by simp)
        rcases List.mem_cons.1 h1 with e | e
        · exact e
        · rcases List.mem_cons.1 h2 with e2 | e2
          · exact e2.symm
          · have := hb.1 x e
            have := ha.1 y e2
            omega
      subst hxy
      rw [ih ha.2 hb.2 (fun z => ?_)]
      constructor
      · intro hz
        have := (h z).1 (by simp [hz])
        rcases List.mem_cons.1 this with e | e
        · have := ha.1 z hz; omega
        · exact e
      · intro hz
        have := (h z).2 (by simp [hz])
        rcases List.mem_cons.1 this with e | e
        · have := hb.1 z hz; omega
        · exact e
theorem lateS_mem {l : List (Int × Int × Int)} {E : List Int} {n : Nat} {x : Int} : x ∈ lateS l E n ↔ ∃ j, j < n ∧ x = (j : Int) ∧ dueK l (j : Int) < gi E j := by
  induction n with
  | zero => simp [lateS]
  | succ n ih =>
    unfold lateS
    split
    · rename_i h
      rw [List.mem_append, ih, List.mem_singleton]
      constructor
      · rintro (⟨j, hj, e, hd⟩ | rfl)
        · exact ⟨j, by omega, e, hd⟩
        · exact ⟨n, by omega, rfl, h⟩
      · rintro ⟨j, hj, e, hd⟩
        by_cases e2 : j = n
        · rw [e2] at e; exact .inr e
        · exact .inl ⟨j, by omega, e, hd⟩
    · rename_i h
      rw [ih]
      constructor
      · rintro ⟨j, hj, e, hd⟩
        exact ⟨j, by omega, e, hd⟩
      · rintro ⟨j, hj, e, hd⟩
        by_cases e2 : j = n
        · rw [e2] at hd; exact absurd hd h
        · exact ⟨j, by omega, e, hd⟩
theorem lateS_sorted (l : List (Int × Int × Int)) (E : List Int) (n : Nat) : (lateS l E n).Pairwise (· < ·) := by
  induction n with
  | zero => exact List.Pairwise.nil
  | succ n ih =>
    unfold lateS
    split
    · rw [List.pairwise_append]
      refine ⟨ih, List.pairwise_singleton _ _, fun a ha b hb => ?_⟩
      obtain ⟨j, hj, rfl, _⟩ := lateS_mem.1 ha
      rw [List.mem_singleton] at hb
      omega
    · exact ih
theorem lateS_len (l : List (Int × Int × Int)) (E : List Int) (n : Nat) : (lateS l E n).length ≤ n := by
  induction n with
  | zero => simp [lateS]
  | succ n ih => unfold lateS; split <;> (try simp) <;> omega
theorem lateN_mem {l : List (Int × Int × Int)} {o : List Int} {n : Nat} {x : Int} : x ∈ lateN l o n ↔ ∃ j, j < n ∧ x = gi o j ∧ dueK l (gi o j) < endN l o (j + 1) := by
  induction n with
  | zero => simp [lateN]
  | succ n ih =>
    unfold lateN
    split
    · rename_i h
      rw [List.mem_append, ih, List.mem_singleton]
      constructor
      · rintro (⟨j, hj, e, hd⟩ | rfl)
        · exact ⟨j, by omega, e, hd⟩
        · exact ⟨n, by omega, rfl, h⟩
      · rintro ⟨j, hj, e, hd⟩
        by_cases e2 : j = n
        · rw [e2] at e; exact .inr e
        · exact .inl ⟨j, by omega, e, hd⟩
    · rename_i h
      rw [ih]
      constructor
      · rintro ⟨j, hj, e, hd⟩
        exact ⟨j, by omega, e, hd⟩
      · rintro ⟨j, hj, e, hd⟩
        by_cases e2 : j = n
        · rw [e2] at hd; exact absurd hd h
        · exact ⟨j, by omega, e, hd⟩
theorem lateN_len (l : List (Int × Int × Int)) (o : List Int) (n : Nat) : (lateN l o n).length ≤ n := by
  induction n with
  | zero => simp [lateN]
  | succ n ih => unfold lateN; split <;> (try simp) <;> omega
/-- no two alike -/
theorem okP_ne {o : List Int} {n i j : Nat} (hn : n ≤ o.length) (h : okP o n n = true) (hij : i < j) (hj : j < n) : gi o i ≠ gi o j := fun e =>
  (stpP_iff.1 (okP_at h hj)).2 ((mem_take_gi (by omega)).2 ⟨i, hij, e.symm⟩)
theorem lateN_nodup {l : List (Int × Int × Int)} {o : List Int} {n : Nat} (hn : n ≤ o.length) (h : okP o n n = true) (m : Nat) (hm : m ≤ n) : (lateN l o m).Nodup := by
  induction m with
  | zero => exact List.nodup_nil
  | succ m ih =>
    unfold lateN
    split
    · rw [List.nodup_append]
      refine ⟨ih (by omega), by simp, fun a ha b hb => ?_⟩
      obtain ⟨j, hj, rfl, _⟩ := lateN_mem.1 ha
      rw [List.mem_singleton] at hb
      rw [hb]
      exact okP_ne hn h hj (by omega)
    · exact ih (by omega)
theorem nodup_gi {M : List Int} (h : M.Nodup) : ∀ i k, i < k → k < M.length → gi M i ≠ gi M k := fun i k hik hk => by
  rw [gi_eq (by omega), gi_eq hk]
  exact List.pairwise_iff_getElem.1 h i k (by omega) hk hik
theorem endE_len (l : List (Int × Int × Int)) (o : List Int) (k : Nat) : (endE l o k).length = l.length := by
  induction k with
  | zero => simp [endE]
  | succ k ih => rw [endE, List.length_set, ih]
theorem jobB_bd {l : List (Int × Int × Int)} (hj : jobsB l = true) {k : Nat} (hk : k < l.length) : ((1 ≤ (gJ l k).1 ∧ (gJ l k).1 ≤ 30) ∧ (0 ≤ (gJ l k).2.1 ∧ (gJ l k).2.1 ≤ 200)) ∧ 0 ≤ (gJ l k).2.2 ∧ (gJ l k).2.2 ≤ 1000 := by
  simp only [jobsB, Bool.and_eq_true] at hj
  have := all_at_J hk hj.2
  simpa only [jobB, Bool.and_eq_true, inB_iff] using this
theorem endN_bd {l : List (Int × Int × Int)} {o : List Int} (hj : jobsB l = true) (k : Nat) (hk : ∀ i, i < k → 0 ≤ gi o i ∧ gi o i < (l.length : Int)) : k ≤ endN l o k ∧ endN l o k ≤ 30 * k := by
  induction k with
  | zero => simp [endN]
  | succ k ih =>
    obtain ⟨i1, i2⟩ := ih (fun i hi => hk i (by omega))
    have h := hk k (by omega)
    have b := (jobB_bd hj (k := (gi o k).toNat) (by omega)).1.1
    rw [endN]
    omega
theorem gi_set {L : List Int} {a b : Nat} {x : Int} (ha : a < L.length) : gi (L.set a x) b = if a = b then x else gi L b := by
  unfold gi
  rw [List.getD_eq_getElem?_getD, List.getD_eq_getElem?_getD, List.getElem?_set]
  split
  · simp
  · rfl
theorem endE_hit {l : List (Int × Int × Int)} {o : List Int} {n k i : Nat} (hn : n ≤ o.length) (hl : n = l.length) (h : okP o n n = true) (hk : k ≤ n) (hi : i < k) : gi (endE l o k) (gi o i).toNat = endN l o (i + 1) := by
  induction k with
  | zero => omega
  | succ k ih =>
    have b := (stpP_iff.1 (okP_at h (show k < n by omega))).1
    have bi := (stpP_iff.1 (okP_at h (show i < n by omega))).1
    rw [endE, gi_set (by rw [endE_len]; omega)]
    by_cases e : i = k
    · rw [e, if_pos rfl]
    · rw [if_neg, ih (by omega) (by omega)]
      intro e2
      exact okP_ne hn h (show i < k by omega) (by omega) (by omega)
theorem endE_miss {l : List (Int × Int × Int)} {o : List Int} {n k : Nat} (hn : n ≤ o.length) (hl : n = l.length) (h : okP o n k = true) (hk : k ≤ n) {x : Nat} (hx : ∀ i, i < k → gi o i ≠ (x : Int)) : gi (endE l o k) x = 0 := by
  induction k with
  | zero =>
    rw [endE]
    unfold gi
    rw [List.getD_eq_getElem?_getD, List.getElem?_replicate]
    split <;> rfl
  | succ k ih =>
    have b := (stpP_iff.1 (okP_at h (show k < k + 1 by omega))).1
    rw [okP, Bool.and_eq_true] at h
    rw [endE, gi_set (by rw [endE_len]; omega), if_neg, ih h.1 (by omega) (fun i hi => hx i (by omega))]
    intro e
    exact hx k (by omega) (by omega)
theorem late_eq {l : List (Int × Int × Int)} {o : List Int} (hj : jobsB l = true) (hp : permB o l.length = true) : srtG (lateN l o l.length) (lateN l o l.length).length = lateS l (endE l o l.length) l.length := by
  obtain ⟨h1, h2⟩ : o.length = l.length ∧ okP o l.length l.length = true := by simpa [permB] using hp
  refine sorted_ext (srtG_sorted (nodup_gi (lateN_nodup (by omega) h2 _ (Nat.le_refl _))) (Nat.le_refl _)) (lateS_sorted _ _ _) fun x => ?_
  rw [srtG_mem (Nat.le_refl _), List.take_length, lateN_mem, lateS_mem]
  constructor
  · rintro ⟨j, hjl, rfl, hd⟩
    have b := (stpP_iff.1 (okP_at h2 hjl)).1
    refine ⟨(gi o j).toNat, by omega, by omega, ?_⟩
    rw [endE_hit (by omega) rfl h2 (Nat.le_refl _) hjl, show (((gi o j).toNat : Nat) : Int) = gi o j by omega]
    exact hd
  · rintro ⟨j, hjl, rfl, hd⟩
    by_cases hex : ∃ i, i < l.length ∧ gi o i = (j : Int)
    · obtain ⟨i, hi, e⟩ := hex
      have := endE_hit (l := l) (by omega) rfl h2 (Nat.le_refl _) hi
      rw [e, show ((j : Int)).toNat = j by omega] at this
      exact ⟨i, hi, e.symm, by rw [e, ← this]; exact hd⟩
    · have := endE_miss (l := l) (by omega) rfl h2 (Nat.le_refl _) (x := j) (fun i hi e => hex ⟨i, hi, e⟩)
      rw [this] at hd
      have := (jobB_bd hj hjl).1.2.1
      rw [dueK, show ((j : Int)).toNat = j by omega] at hd
      omega
/-- a place is taken just where its end is above 0 -/
theorem endE_pos {l : List (Int × Int × Int)} {o : List Int} {k : Nat} (hj : jobsB l = true) (ho : o.length = l.length) (h : okP o l.length k = true) (hk : k < l.length) (hb : 0 ≤ gi o k ∧ gi o k < (l.length : Int)) :
    (0 < gi (endE l o k) (gi o k).toNat ↔ gi o k ∈ o.take k) ∧ 0 ≤ gi (endE l o k) (gi o k).toNat := by
  by_cases hm : gi o k ∈ o.take k
  · obtain ⟨i, hi, e⟩ := (mem_take_gi (by omega)).1 hm
    have key : ∀ m, m ≤ k → i < m → gi (endE l o m) (gi o i).toNat = endN l o (i + 1) := by
      intro m
      induction m with
      | zero => intro _ h; omega
      | succ m ih =>
        intro hm1 hm2
        have b := (stpP_iff.1 (okP_at h (show m < k by omega)))
        have bi := (stpP_iff.1 (okP_at h (show i < k by omega))).1
        rw [endE, gi_set (by rw [endE_len]; omega)]
        by_cases e : i = m
        · rw [e, if_pos rfl]
        · rw [if_neg, ih (by omega) (by omega)]
          intro e2
          exact b.2 ((mem_take_gi (by omega)).2 ⟨i, by omega, by omega⟩)
    rw [e, key k (Nat.le_refl _) hi]
    have := (endN_bd (o := o) hj (i + 1) (fun j hj2 => (stpP_iff.1 (okP_at h (show j < k by omega))).1)).1
    exact ⟨⟨fun _ => e ▸ hm, fun _ => by omega⟩, by omega⟩
  · have := endE_miss (l := l) (o := o) (n := l.length) (k := k) (by omega) rfl h (by omega) (x := (gi o k).toNat) (fun i hi e => hm ((mem_take_gi (by omega)).2 ⟨i, hi, by omega⟩))
    rw [this]
    exact ⟨⟨fun h => by omega, fun h => absurd h hm⟩, Int.le_refl _⟩
theorem lateF_len (l : List (Int × Int × Int)) (o : List Int) : (lateF l o).length ≤ l.length := by
  unfold lateF
  split
  · exact lateS_len _ _ _
  · exact Nat.zero_le _
end Go.Proofs.Ytloienidakomdaa
