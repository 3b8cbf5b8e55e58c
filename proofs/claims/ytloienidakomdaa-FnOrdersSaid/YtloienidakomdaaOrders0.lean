/- What FnOrders says, on lists; no condition. -/
import Derived.Test.YtloienidakomdaaGain0
namespace Go.Proofs.Ytloienidakomdaa
open Go.RowKit

/-- 0, 1, .. in the order of the keys: the keys ascend -/
theorem dueL_sorted (d : Int → Int) (k : Nat) : (dueL d k).Pairwise (fun a b => d a ≤ d b) := by
  induction k with
  | zero => exact List.Pairwise.nil
  | succ k ih =>
    rw [dueL]
    obtain ⟨p1, p2⟩ := posD_spec d (dueL d k) (k : Int) (dueL d k).length
    have p3 := posD_le d (dueL d k) (k : Int) (dueL d k).length
    unfold insD mv
    generalize posD d (dueL d k) (k : Int) (dueL d k).length = p at *
    generalize hL : dueL d k = L at *
    generalize (k : Int) = x at *
    have hle : ∀ a b, a ≤ b → b < L.length → d (gi L a) ≤ d (gi L b) := fun a b hab hb => by
      by_cases e : a = b
      · rw [e]; exact Int.le_refl _
      · rw [gi_eq (by omega), gi_eq hb]
        exact List.pairwise_iff_getElem.1 ih a b (by omega) hb (by omega)
    have h1 : ∀ a ∈ L.take p, d a ≤ d x := by
      intro a ha
      obtain ⟨i, hi, rfl⟩ := (mem_take_gi p3).1 ha
      rcases p2 with h0 | h0
      · omega
      · have := hle i (p - 1) (by omega) (by omega)
        omega
    have h2 : ∀ b ∈ L.drop p, d x ≤ d b := by
      intro b hb
      obtain ⟨i, hi, e⟩ := List.mem_iff_getElem.1 hb
      simp at hi
      rw [List.getElem_drop] at e
      have := p1 (p + i) (by omega) (by omega)
      rw [gi_eq (by omega), e] at this
      omega
    rw [List.pairwise_append, List.pairwise_cons]
    refine ⟨ih.sublist (List.take_sublist _ _), ⟨h2, ih.sublist (List.drop_sublist _ _)⟩, fun a ha b hb => ?_⟩
    rcases List.mem_cons.1 hb with rfl | hb
    · exact h1 a ha
    · have := h1 a ha
      have := h2 b hb
      omega
theorem dueL_mono {d : Int → Int} {k i j : Nat} (hij : i ≤ j) (hj : j < k) : d (gi (dueL d k) i) ≤ d (gi (dueL d k) j) := by
  by_cases e : i = j
  · rw [e]; exact Int.le_refl _
  · have hl := dueL_len d k
    rw [gi_eq (by omega), gi_eq (by omega)]
    exact List.pairwise_iff_getElem.1 (dueL_sorted d k) i j (by omega) (by omega) (by omega)
theorem dueL_nodup (d : Int → Int) (k : Nat) : (dueL d k).Nodup := by
  induction k with
  | zero => exact List.nodup_nil
  | succ k ih =>
    rw [dueL, insD]
    have hn : (k : Int) ∉ dueL d k := fun h => by have := dueL_mem.1 h; omega
    generalize posD d (dueL d k) (k : Int) (dueL d k).length = p
    unfold mv
    have hp : (dueL d k).take p ++ (dueL d k).drop p = dueL d k := List.take_append_drop _ _
    have h2 : ((dueL d k).take p ++ (dueL d k).drop p).Nodup := by rw [hp]; exact ih
    rw [List.nodup_append] at h2 ⊢
    refine ⟨h2.1, ?_, fun a ha b hb => ?_⟩
    · rw [List.nodup_cons]
      exact ⟨fun h => hn (List.mem_of_mem_drop h), h2.2.1⟩
    · rcases List.mem_cons.1 hb with rfl | hb
      · intro e; exact hn (e ▸ List.mem_of_mem_take ha)
      · exact h2.2.2 a ha b hb
/-- b is an order of all -/
theorem dueL_perm (d : Int → Int) (n : Nat) : permB (dueL d n) n = true := by
  have hl := dueL_len d n
  rw [permB, Bool.and_eq_true]
  refine ⟨by simpa using hl, okP_all fun k hk => ?_⟩
  rw [stpP_iff]
  refine ⟨dueL_bd hk, fun h => ?_⟩
  obtain ⟨i, hi, e⟩ := (mem_take_gi (by omega)).1 h
  exact nodup_gi (dueL_nodup d n) i k hi (by omega) e.symm
theorem upI_perm (n : Nat) : permB (upI 0 n) n = true := by
  have hl := upI_len 0 n
  rw [permB, Bool.and_eq_true]
  refine ⟨by simpa using hl, okP_all fun k hk => ?_⟩
  rw [stpP_iff, upI_get hk]
  refine ⟨by omega, fun h => ?_⟩
  obtain ⟨i, hi, e⟩ := (mem_take_gi (by omega)).1 h
  rw [upI_get (by omega)] at e
  omega
/-- who is late in an order of all -/
theorem late_nil_iff {l : List (Int × Int × Int)} {o : List Int} (hj : jobsB l = true) (hp : permB o l.length = true) : lateF l o = [] ↔ ∀ j, j < l.length → endN l o (j + 1) ≤ dueK l (gi o j) := by
  have hF : lateF l o = srtG (lateN l o l.length) (lateN l o l.length).length := by rw [late_eq hj hp]; simp [lateF, hj, hp]
  have hl : lateF l o = [] ↔ lateN l o l.length = [] := by
    rw [hF]
    constructor
    · intro h
      have := srtG_len (lateN l o l.length) (lateN l o l.length).length
      rw [h] at this
      exact List.eq_nil_of_length_eq_zero this.symm
    · intro h; rw [h]; rfl
  rw [hl]
  constructor
  · intro h j hjl
    by_cases hd : dueK l (gi o j) < endN l o (j + 1)
    · have : gi o j ∈ lateN l o l.length := lateN_mem.2 ⟨j, hjl, rfl, hd⟩
      rw [h] at this
      cases this
    · omega
  · intro h
    cases e : lateN l o l.length with
    | nil => rfl
    | cons x t =>
      have : x ∈ lateN l o l.length := by rw [e]; simp
      obtain ⟨j, hjl, rfl, hd⟩ := lateN_mem.1 this
      have := h j hjl
      omega
def dayK (l : List (Int × Int × Int)) (x : Int) : Int := (gJ l x.toNat).1
def sumD (f : Int → Int) (L : List Int) : Int := L.foldr (fun x s => f x + s) 0
theorem sumD_append (f : Int → Int) (L M : List Int) : sumD f (L ++ M) = sumD f L + sumD f M := by
  induction L with
  | nil => simp [sumD]
  | cons x L ih => simp only [sumD, List.cons_append, List.foldr_cons] at *; omega
theorem endN_sum {l : List (Int × Int × Int)} {o : List Int} (k : Nat) (hk : k ≤ o.length) : endN l o k = sumD (dayK l) (o.take k) := by
  induction k with
  | zero => rfl
  | succ k ih =>
    rw [endN, ih (by omega), take_succ_gi (by omega), sumD_append]
    simp [sumD, dayK]
/-- the sum over distinct numbers below n is at most the sum over all -/
theorem sum_le {f : Int → Int} (n : Nat) : ∀ (L : List Int), L.Nodup → (∀ x ∈ L, 0 ≤ x ∧ x < (n : Int)) → (∀ x, 0 ≤ x → x < (n : Int) → 0 ≤ f x) → sumD f L ≤ sumD f (upI 0 n) := by
  induction n with
  | zero =>
    intro L _ h _
    cases L with
    | nil => exact Int.le_refl _
    | cons x L => have := h x (by simp); omega
  | succ n ih =>
    intro L hn h hf
    have hu : upI 0 (n + 1) = upI 0 n ++ [(n : Int)] := by simp [upI, List.range_succ]
    have key : ∀ M : List Int, M.Nodup → sumD f M ≤ sumD f (M.filter (fun x => x != (n : Int))) + (if (n : Int) ∈ M then f n else 0) := by
      intro M
      induction M with
      | nil => intro _; simp [sumD]
      | cons x M ihM =>
        intro hM
        rw [List.nodup_cons] at hM
        have := ihM hM.2
        by_cases e : x = (n : Int)
        · subst e
          rw [if_neg hM.1] at this
          simp only [List.filter_cons, bne_self_eq_false, Bool.false_eq_true, if_false, List.mem_cons, true_or, if_true]
          simp only [sumD, List.foldr_cons] at *
          omega
        · have hb : (x != (n : Int)) = true := by simpa using e
          have hm : ((n : Int) ∈ x :: M) ↔ (n : Int) ∈ M := by simp [Ne.symm e]
          simp only [List.filter_cons, hb, if_true, hm]
          simp only [sumD, List.foldr_cons] at *
          omega
    have h1 := key L hn
    have h2 := ih (L.filter (fun x => x != (n : Int))) (hn.sublist List.filter_sublist) (fun x hx => by
      rw [List.mem_filter] at hx
      have := h x hx.1
      have hne : x ≠ (n : Int) := by simpa using hx.2
      omega) (fun x h0 hx => hf x h0 (by omega))
    have h3 := hf n (by omega) (by omega)
    rw [hu, sumD_append]
    have h4 : sumD f [(n : Int)] = f n := by simp [sumD]
    split at h1 <;> omega
/-- if nobody is late in the given order, nobody is in the order of the dates -/
theorem edd {l : List (Int × Int × Int)} (hj : jobsB l = true) (h : lateF l (upI 0 l.length) = []) : lateF l (dueL (dueK l) l.length) = [] := by
  rw [late_nil_iff hj (upI_perm _)] at h
  rw [late_nil_iff hj (dueL_perm _ _)]
  intro i hi
  have hdl := dueL_len (dueK l) l.length
  -- the last of them in the given order
  have hmax : ∀ m, m < l.length → ∃ q, q ≤ m ∧ ∀ j, j ≤ m → gi (dueL (dueK l) l.length) j ≤ gi (dueL (dueK l) l.length) q := by
    intro m
    induction m with
    | zero => intro _; exact ⟨0, Nat.le_refl _, fun j hj => by rw [show j = 0 by omega]; exact Int.le_refl _⟩
    | succ m ih =>
      intro hm
      obtain ⟨q, hq, hq2⟩ := ih (by omega)
      by_cases hc : gi (dueL (dueK l) l.length) q ≤ gi (dueL (dueK l) l.length) (m + 1)
      · refine ⟨m + 1, Nat.le_refl _, fun j hj => ?_⟩
        by_cases e : j = m + 1
        · rw [e]; exact Int.le_refl _
        · have := hq2 j (by omega); omega
      · refine ⟨q, by omega, fun j hj => ?_⟩
        by_cases e : j = m + 1
        · rw [e]; omega
        · exact hq2 j (by omega)
  obtain ⟨q, hq, hq2⟩ := hmax i hi
  have bq := dueL_bd (d := dueK l) (k := l.length) (show q < l.length by omega)
  obtain ⟨x, hx⟩ := Int.eq_ofNat_of_zero_le bq.1
  rw [hx] at bq hq2
  have hxl : x < l.length := by omega
  have h1 := h x hxl
  rw [upI_get hxl, show (0 : Int) + (x : Int) = (x : Int) by omega] at h1
  have h2 : dueK l (gi (dueL (dueK l) l.length) q) ≤ dueK l (gi (dueL (dueK l) l.length) i) := dueL_mono hq hi
  rw [hx] at h2
  have hpre : (upI 0 l.length).take (x + 1) = upI 0 (x + 1) := by
    apply List.ext_getElem?
    intro j
    rw [List.getElem?_take]
    by_cases hjx : j < x + 1
    · rw [if_pos hjx]
      simp [upI, List.getElem?_range, hjx, show j < l.length by omega]
    · rw [if_neg hjx, List.getElem?_eq_none (by rw [upI_len]; omega)]
  have h3 := endN_sum (l := l) (o := dueL (dueK l) l.length) (i + 1) (by omega)
  have h4 := endN_sum (l := l) (o := upI 0 l.length) (x + 1) (by rw [upI_len]; omega)
  rw [hpre] at h4
  have h5 := sum_le (f := dayK l) (x + 1) ((dueL (dueK l) l.length).take (i + 1)) ((dueL_nodup _ _).sublist (List.take_sublist _ _)) (fun y hy => by
    obtain ⟨j, hj2, rfl⟩ := (mem_take_gi (by omega)).1 hy
    have := dueL_bd (d := dueK l) (k := l.length) (show j < l.length by omega)
    have := hq2 j (by omega)
    omega) (fun y hy0 hy => by
    have := (jobB_bd hj (k := y.toNat) (by omega)).1.1
    rw [dayK]; omega)
  rw [h3]
  rw [h4] at h1
  omega
theorem dueF_eq {l : List (Int × Int × Int)} (hj : jobsB l = true) : dueF l = dueL (dueK l) l.length := by simp [dueF, hj]
theorem ait_iff {l : List (Int × Int × Int)} (hj : jobsB l = true) : aitF l = true ↔ lateF l (dueF l) = [] := by
  rw [aitF, hj, Bool.true_and, decide_eq_true_eq]
  constructor
  · exact List.eq_nil_of_length_eq_zero
  · intro h; rw [h]; rfl
/-- the gains of the first k -/
def allN (l : List (Int × Int × Int)) : Nat → Int
  | 0 => 0
  | k + 1 => allN l k + (gJ l k).2.2
theorem gnS_le {l : List (Int × Int × Int)} (hj : jobsB l = true) (s k : Nat) (hk : k ≤ l.length) : gnS l s k ≤ allN l k := by
  induction k with
  | zero => simp [gnS, allN]
  | succ k ih =>
    have := ih (by omega)
    have b := (jobB_bd hj (k := k) (by omega)).2
    unfold gnS allN
    split <;> omega
theorem allN_bd {l : List (Int × Int × Int)} (hj : jobsB l = true) (k : Nat) (hk : k ≤ l.length) : 0 ≤ allN l k ∧ allN l k ≤ 1000 * k := by
  induction k with
  | zero => simp [allN]
  | succ k ih =>
    have := ih (by omega)
    have b := (jobB_bd hj (k := k) (by omega)).2
    rw [allN]; omega
theorem bt_full {n k : Nat} (hk : k < n) : bt (2 ^ n - 1) k = true := by
  have h : Nat.testBit (2 ^ n - 1) k = true := by rw [Nat.testBit_two_pow_sub_one]; simpa using hk
  rw [Nat.testBit_eq_decide_div_mod_eq] at h
  simpa [bt] using h
theorem part_full (l : List (Int × Int × Int)) (k : Nat) (hk : k ≤ l.length) : partS l (2 ^ l.length - 1) k = l.take k ∧ gnS l (2 ^ l.length - 1) k = allN l k := by
  induction k with
  | zero => exact ⟨by simp [partS], rfl⟩
  | succ k ih =>
    obtain ⟨i1, i2⟩ := ih (by omega)
    rw [partS, gnS, allN, bt_full (by omega), i1, i2, if_pos rfl, if_pos rfl, List.take_succ_eq_append_getElem (by omega), gJ_eq (by omega)]
    exact ⟨rfl, rfl⟩
/-- all in time: the best is all -/
theorem most_all {l : List (Int × Int × Int)} (hj : jobsB l = true) (ha : aitF l = true) : mostF l = allN l l.length := by
  obtain ⟨f1, f2⟩ := part_full l l.length (Nat.le_refl _)
  rw [List.take_length] at f1
  have h1 : gofF l (2 ^ l.length - 1) = allN l l.length := by rw [gofF, f1, ha, if_pos rfl, f2]
  have hp : 0 < 2 ^ l.length := Nat.pow_pos (by omega)
  have h2 := (bst_spec l (2 ^ l.length)).1.2 (2 ^ l.length - 1) (by omega)
  have h3 := gn_best l
  have h4 := gnS_le hj (bestF l) l.length (Nat.le_refl _)
  rw [mostF] at *
  omega
theorem most_best {l : List (Int × Int × Int)} : aitF (partS l (bestF l) l.length) = true := by
  have h1 := gof_best l
  have h2 := (bst_spec l (2 ^ l.length)).1.1
  rw [gofF] at h1
  cases hb : aitF (partS l (bestF l) l.length)
  · rw [hb] at h1; rw [mostF] at h1; simp at h1; omega
  · rfl
theorem other_le {l : List (Int × Int × Int)} {s : Nat} (hs : s < 2 ^ l.length) (h : aitF (partS l s l.length) = true) : gnS l s l.length ≤ mostF l := by
  have := (bst_spec l (2 ^ l.length)).1.2 s hs
  rw [gofF, h, if_pos rfl] at this
  exact this
end Go.Proofs.Ytloienidakomdaa
