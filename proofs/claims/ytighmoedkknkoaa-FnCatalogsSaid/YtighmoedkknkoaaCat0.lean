/- The plain law of the catalogs; no condition. -/
import Derived.Test.YtighmoedkknkoaaPut0
import Derived.Test.YtighmoedkknkoaaDropEntry0
import Derived.Test.YtighmoedkknkoaaSameEn
import Derived.Lib.IndexEntry
namespace Go.Proofs.Ytighmoedkknkoaa
open Go.RowKit

/-- the names that are drawn -/
def nineL : List ByteArray := [⟨#[97]⟩, ⟨#[97, 98]⟩, ⟨#[97, 98, 99]⟩, ⟨#[98]⟩, ⟨#[98, 50]⟩, ⟨#[108, 117, 108, 108, 97, 98, 121]⟩, ⟨#[109, 97, 114, 99, 104]⟩, ⟨#[119, 97, 108, 116, 122]⟩, ⟨#[55]⟩]
def zebT : ByteArray := ⟨#[122, 101, 98, 114, 97]⟩
theorem ltS_data (a b : ByteArray) : ltS a b = Op.bytesLess a.data.toList b.data.toList := by rw [ltS, Lib.toList_data, Lib.toList_data]
theorem nine_lt : ∀ s ∈ nineL, ltS s zebT = true := by
  intro s h
  rw [ltS_data]
  revert s
  decide
theorem nine_size : ∀ s ∈ nineL, s.size ≤ 7 := by decide
theorem zeb_ok : nameB zebT = true := by decide
theorem Zeb_no : nameB ⟨#[90, 101, 98, 114, 97]⟩ = false := by decide
/-- a drawn catalog -/
structure DrCat (l : List En) : Prop where
  ok : catB l = true
  len : l.length ≤ 6
  nine : ∀ k, k < l.length → (gE l k).1 ∈ nineL
theorem fndN_neg {l : List En} {s : ByteArray} {n : Nat} (h : ∀ k, k < n → nmB l s k = false) : fndN l s n = -1 := by
  induction n with
  | zero => rfl
  | succ n ih => exact fndN_miss (ih fun k hk => h k (by omega)) (h n (by omega))
theorem ltS_ne {l : List En} {s : ByteArray} {k : Nat} (h : ltS (gE l k).1 s = true) : nmB l s k = false := by
  cases hb : nmB l s k with
  | false => rfl
  | true =>
    have e : (gE l k).1.toList = s.toList := by simpa [nmB] using hb
    rw [(ltS_same (c := (gE l k).1) e).1.symm, ltS_irrefl] at h
    cases h
theorem gE_app1 {l : List En} {e : En} {k : Nat} (h : k < l.length) : gE (l ++ [e]) k = gE l k := by
  rw [gE_eq (by simp; omega), gE_eq h, List.getElem_append_left]
theorem gE_app2 (l : List En) (e : En) : gE (l ++ [e]) l.length = e := by simp [gE]
structure CatsL (l : List En) (m : List (Int × Int)) : Prop where
  p1 : putQ l (zebT, m) = true
  pl : putL l (zebT, m) = l ++ [(zebT, m)]
  cx : catB (l ++ [(zebT, m)]) = true
  p2 : putQ (l ++ [(zebT, m)]) (zebT, m) = false
  fx : fndF (l ++ [(zebT, m)]) zebT = l.length
  d1 : drpQ (l ++ [(zebT, m)]) zebT = true
  dl : drpL (l ++ [(zebT, m)]) zebT = l
  fi : ∀ i, i < l.length → fndF l (gE l i).1 = i
  ni : ∀ i, i < l.length → nameB (gE l i).1 = true
  d2 : drpQ l zebT = false
  fz : fndF l zebT = -1
  sl : sameF l = allP l l.length
theorem cats_law {l : List En} {m : List (Int × Int)} (h : DrCat l) (hm : tuneB m = true) : CatsL l m := by
  obtain ⟨ok, len, nine⟩ := h
  have hlt : ∀ k, k < l.length → ltS (gE l k).1 zebT = true := fun k hk => nine_lt _ (nine k hk)
  have fz : fndF l zebT = -1 := by rw [fndF, ok, if_pos rfl]; exact fndN_neg fun k hk => ltS_ne (hlt k hk)
  have hpos : posI l zebT = l.length := by
    unfold posI
    rw [List.findIdx_eq_length]
    intro x hx
    obtain ⟨k, hk, rfl⟩ := List.getElem_of_mem hx
    have := hlt k hk
    rw [gE_eq hk] at this
    rw [this]; rfl
  have hins : insL l (posI l zebT) (zebT, m) = l ++ [(zebT, m)] := by rw [hpos, insL, List.take_length, List.drop_of_length_le (Nat.le_refl _), List.append_nil]
  have cx : catB (l ++ [(zebT, m)]) = true := by
    rw [catB_iff]
    refine ⟨by simp; omega, okC_all fun k hk => ?_⟩
    rw [List.length_append, List.length_singleton] at hk
    by_cases e : k < l.length
    · have h1 := okC_at (catB_iff.1 ok).2 e
      unfold enB at h1 ⊢
      rw [gE_app1 e, gE_app1 (show k - 1 < l.length by omega)]
      exact h1
    · obtain rfl : k = l.length := by omega
      unfold enB
      rw [gE_app2]
      simp only [zeb_ok, hm, Bool.true_and, Bool.or_eq_true, decide_eq_true_eq]
      by_cases h0 : l.length = 0
      · exact .inl h0
      · refine .inr ?_
        rw [gE_app1 (show l.length - 1 < l.length by omega)]
        exact hlt _ (by omega)
  have p1 : putQ l (zebT, m) = true := by
    simp only [putQ, ok, Bool.true_and, Bool.and_eq_true, decide_eq_true_eq]
    exact ⟨by rw [fz]; omega, by rw [hins]; exact cx⟩
  have fx : fndF (l ++ [(zebT, m)]) zebT = l.length := by
    rw [fndF, cx, if_pos rfl]
    refine fndN_hit (fndN_neg fun k hk => ?_) ?_ (by simp)
    · have := ltS_ne (hlt k hk)
      unfold nmB at this ⊢
      rw [gE_app1 hk]
      exact this
    · unfold nmB
      rw [gE_app2]
      simp
  refine ⟨p1, by rw [putL, p1, if_pos rfl, hins], cx, ?_, fx, ?_, ?_, fun i hi => ?_, fun i hi => ?_, ?_, fz, by rw [sameF, ok, if_pos rfl]⟩
  · simp only [putQ, fx]
    rw [show decide ((l.length : Int) < 0) = false by simp]
    simp
  · simp [drpQ, fx]
  · rw [drpL, drpQ, fx, if_pos (by simp), outL, Int.toNat_natCast, List.take_left, List.drop_of_length_le (by simp), List.append_nil]
  · rw [fndF, ok, if_pos rfl]
    refine fndN_hit (fndN_neg fun k hk => ltS_ne (catB_lt ok hk hi)) ?_ hi
    simp [nmB]
  · have := okC_at (catB_iff.1 ok).2 hi
    simp only [enB, Bool.and_eq_true] at this
    exact this.1.1
  · rw [drpQ, fz]; rfl
/-! ## the draw -/
theorem drcat_nil : DrCat [] := ⟨rfl, by simp, fun k h => by simp at h⟩
theorem putL_nine {l : List En} {s : ByteArray} {m : List (Int × Int)} (h : DrCat l) (hs : s ∈ nineL) (h6 : l.length < 6) : DrCat (putL l (s, m)) := by
  unfold putL
  split
  · rename_i hq
    simp only [putQ, Bool.and_eq_true] at hq
    refine ⟨hq.2, by rw [insL_len]; omega, fun k hk => ?_⟩
    rw [insL_len] at hk
    have hp : posI l s ≤ l.length := List.findIdx_le_length
    rw [gE, insL_get hp]
    split
    · exact h.nine k (by omega)
    · split
      · exact hs
      · exact h.nine (k - 1) (by omega)
  · exact h
theorem putL_one (l : List En) (e : En) : (putL l e).length ≤ l.length + 1 := by
  unfold putL
  split
  · rw [insL_len]; omega
  · omega
theorem drcat_sz {l : List En} (h : DrCat l) : l.length + szE l ≤ 6 + 6 * 47 := by
  have : ∀ k, k ≤ l.length → szE (l.take k) ≤ 47 * k := by
    intro k
    induction k with
    | zero => intro _; simp [szE]
    | succ k ih =>
      intro hk
      have h1 := nine_size _ (h.nine k (by omega))
      have h2 := okC_at (catB_iff.1 h.ok).2 (show k < l.length by omega)
      simp only [enB, Bool.and_eq_true] at h2
      have h3 := (tuneB_iff h2.1.2).1
      have := ih (by omega)
      rw [szE_take (by omega)]
      omega
  have h1 := this l.length (Nat.le_refl _)
  rw [List.take_length] at h1
  have := h.len
  omega
theorem rowP_step {l : List En} {i j : Nat} (h : i < j) : ((rowP l i (j + 1)).length : Int) = (rowP l i j).length + (if sameB (gE l i).2 (gE l j).2 then 1 else 0) := by
  rw [rowP, show decide (i < j) = true by simp [h], Bool.true_and, List.length_append]
  split <;> simp
end Go.Proofs.Ytighmoedkknkoaa
