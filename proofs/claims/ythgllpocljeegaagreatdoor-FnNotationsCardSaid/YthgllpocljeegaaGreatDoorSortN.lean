/- SortNotes of the reference, the drawn tunes; lengths up to 2^20. -/
import Derived.Test.YthgllpocljeegaaGreatDoorSort0
import Derived.Test.YthgllpocljeegaaGreatDoorTune
import Derived.Deep.RegionHeld3
namespace Go.Proofs.YthgllpocljeegaaGreatDoor
open Go.RowKit

theorem ordN : SOrd ltN where
  irr a := by simp [ltN]
  trans a b c h1 h2 := by rw [ltN_iff] at h1 h2 ⊢; omega
  tot a b h1 h2 := by
    have h3 : ¬ (a.1 < b.1 ∨ a.1 = b.1 ∧ a.2 < b.2) := by rw [← ltN_iff, h1]; simp
    rw [ltN_iff]
    have h4 : ¬ (a.1 = b.1 ∧ a.2 = b.2) := fun h => h2 (Prod.ext h.1 h.2)
    omega
def srtN (l : List (Int × Int)) : List (Int × Int) := srtF ltN l
theorem insN_at {x : Int × Int} {l : List (Int × Int)} {n : Nat} (hn : n ≤ l.length) (h1 : ∀ j, j < n → ltN (gN l j) x = true) (h2 : n < l.length → ltN (gN l n) x = false) (h3 : n < l.length → gN l n ≠ x) :
    insF ltN x l = l.take n ++ x :: l.drop n := by
  rw [insF_at l n hn (fun j h hj => by have := h1 j hj; rwa [gN_eq h] at this) (fun h => by have := h2 h; rwa [gN_eq h] at this)]
  split
  · rename_i h
    have := h3 h
    rw [gN_eq h] at this
    rw [if_neg this]
  · have e : n = l.length := by omega
    subst e
    simp
theorem insN_in {x : Int × Int} {l : List (Int × Int)} {n : Nat} (hn : n < l.length) (h1 : ∀ j, j < n → ltN (gN l j) x = true) (h3 : gN l n = x) : insF ltN x l = l := by
  have h2 : ltN (gN l n) x = false := by rw [h3]; exact ordN.irr x
  rw [insF_at l n (by omega) (fun j h hj => by have := h1 j hj; rwa [gN_eq h] at this) (fun h => by rwa [gN_eq h] at h2)]
  rw [dif_pos hn, if_pos (by rw [← gN_eq hn]; exact h3)]
theorem srtN_take {l : List (Int × Int)} {k : Nat} (h : k < l.length) : srtN (l.take (k + 1)) = insF ltN (gN l k) (srtN (l.take k)) := by
  rw [take_succ_gN h, srtN, srt_snoc]
  rfl
theorem srtN_len (l : List (Int × Int)) : (srtN l).length ≤ l.length := srt_len l
theorem RdN.take {w : World} {b o m c : Nat} {l : List (Int × Int)} (h : RdN w (.slice (some ⟨b, o, none⟩) m c) l) {n : Nat} (hn : n ≤ l.length) : RdN w (.slice (some ⟨b, o, none⟩) n c) (l.take n) := by
  have e : (l.take n).length = n := by simp; omega
  obtain ⟨h0, A, c', hv, h1, h2, h4, h3⟩ := h
  obtain ⟨rfl, rfl, rfl⟩ : some ⟨b, o, none⟩ = A ∧ m = l.length ∧ c = c' := by simpa using hv
  refine ⟨by rw [cN_len], _, c, by rw [e], by omega, h2, fun h => by simp at h, fun hp => ?_⟩
  obtain ⟨b', o', hA, hb, hc⟩ := h3 (by omega)
  obtain ⟨rfl, rfl⟩ : b = b' ∧ o = o' := by simpa using hA
  refine ⟨b, o, rfl, hb, fun j u hu => hc j u ?_⟩
  have hl : cN l = cN (l.take n) ++ cN (l.drop n) := by rw [← cN_append, List.take_append_drop]
  rw [hl, List.getElem?_append_left]
  · exact hu
  · rcases Nat.lt_or_ge j (cN (l.take n)).length with h | h
    · exact h
    · rw [List.getElem?_eq_none h] at hu; cases hu
theorem RdN.drop {w : World} {b o m c : Nat} {l : List (Int × Int)} (h : RdN w (.slice (some ⟨b, o, none⟩) m c) l) {n : Nat} (hn : n ≤ l.length) : RdN w (.slice (if c = n then some ⟨b, o, none⟩ else some ⟨b, o + n * 2, none⟩) (l.length - n) (c - n)) (l.drop n) := by
  have e : (l.drop n).length = l.length - n := by simp
  obtain ⟨h0, A, c', hv, h1, h2, h4, h3⟩ := h
  obtain ⟨rfl, rfl, rfl⟩ : some ⟨b, o, none⟩ = A ∧ m = l.length ∧ c = c' := by simpa using hv
  refine ⟨by rw [cN_len], _, c - n, by rw [e], by omega, by omega, fun h => by split at h <;> simp at h, fun hp => ?_⟩
  obtain ⟨b', o', hA, hb, hc⟩ := h3 (by omega)
  obtain ⟨rfl, rfl⟩ : b = b' ∧ o = o' := by simpa using hA
  refine ⟨b, o + n * 2, by rw [if_neg (by omega)], hb, fun j u hu => ?_⟩
  have hl : cN l = cN (l.take n) ++ cN (l.drop n) := by rw [← cN_append, List.take_append_drop]
  have hn2 : (cN (l.take n)).length = n * 2 := by rw [cN_len]; simp; omega
  have := hc (n * 2 + j) u (by rw [hl, List.getElem?_append_right (by omega), hn2]; simpa using hu)
  rwa [show o + n * 2 + j = o + (n * 2 + j) by omega]

theorem RdN.fit {w W : World} {A : Option Addr} {c m : Nat} {l : List (Int × Int)} (h : RdN w (.slice A m c) l) (b : Below w.heap.size w W) {m' : Nat} (e : m = m') : RdN W (.slice A m' c) l := by
  subst e
  exact h.bl b
/-- 'append(v, x...)', as a step: v a row of the call's own, x any slice of notes; what grew is told -/
theorem step_app_Ng (w : World) {ops : Array Oper} {o : Oper} {a : Act} {K : Act → World → Prop} {Q : Exit → Act → World → Prop} {E : Prop} (hgd : o.guard = none) (s x : Operand)
    (ho : o.op = .call { callee := .builtin .append, args := #[s, x], argTypes := #[24, 24] })
    (lo : Nat) (v : Value) (l : List (Int × Int)) (hs : a.eval s = v) (hown : w.ownsRow lo 38 2 v l.length (cN l))
    (vx : Value) (m : List (Int × Int)) (hx : a.eval x = vx) (hr : RdN w vx m) (hl : l.length + m.length ≤ 4194304) (hbase : lo ≤ w.heap.size) (L : List (Int × Int)) (hL : l ++ m = L)
    (h : ∀ A c w', w'.ownsRow lo 38 2 (.slice A L.length c) L.length (cN L) → Below lo w w' → w.grownBy w' v.ownBlock → K (a.put o.dst (.slice A L.length c)) w') :
    if Region.wanted o (yielded ops a.tmps) = true then Oper.wp Tryz.prog o a w K Q else E := by
  have hw : Region.wanted o (yielded ops a.tmps) = true := by simp [Region.wanted, hgd]
  rw [if_pos hw]
  obtain ⟨i0, hi0, hz0, hz1, hz2⟩ := info_parts info_Note
  obtain ⟨A, c, rfl, hmc, hcm⟩ := hr.form
  subst hL
  rcases A with _ | ad
  · have hc := hr.none_
    subst hc
    have hm : m = [] := List.eq_nil_of_length_eq_zero (by omega)
    subst hm
    have hrun := run_append_owned_none (P := Tryz.prog) (w := w) lo 24 o.type 38 i0 2 Tryz.underlying24 hi0 v l.length (cN l) hown
    obtain ⟨A, c, rfl⟩ := own_form hown
    unfold Oper.wp
    simp [execOp, ho, resolve, invoke, builtin, hs, hx, hrun, Result.andThen]
    have h' := h A c w
    rw [List.append_nil] at h'
    exact h' hown (Below.refl _ _) (World.grownBy.refl _ _)
  · refine wp_append_own w s x 24 ho lo 38 i0 (.agg #[.int .i64 0, .int .i64 0]) 2 16 Tryz.underlying24 hi0 hz0 hz1 hz2 rfl (by decide) v l.length (cN l) hs hown ad m.length c (cN m) hx hr.1 ?_ (cN_one m) (by unfold maxLen; omega) (by omega) hbase ?_
    · intro j u hj
      have hm : 0 < m.length := by
        rcases Nat.eq_zero_or_pos m.length with h0 | h0
        · have : m = [] := List.eq_nil_of_length_eq_zero h0
          subst this
          simp [cN] at hj
        · exact h0
      obtain ⟨b, o', hA, _, hc⟩ := hr.look hm
      obtain rfl : ad = ⟨b, o', none⟩ := Option.some.inj hA
      have : (⟨b, o', none⟩ : Addr).add j = ⟨b, o' + j, none⟩ := by unfold Addr.add; split <;> simp_all
      rw [this]
      exact hc j u hj
    · intro v' w' own' gr _
      rw [← List.length_append, ← cN_append] at own'
      obtain ⟨A, c, rfl⟩ := own_form own'
      exact h A c w' own' ((Below.refl lo w).grown gr hbase (fun k hk => (hown.lt k hk).1)) gr
theorem own_headN {w : World} {lo : Nat} {e : TypeId} {s n : Nat} {A : Option Addr} {c : Nat} {xs : List Value} (h : w.ownsRow lo e s (.slice A n c) n xs) (hn : 0 < n) : ∃ g, A = some ⟨g, 0, none⟩ ∧ lo ≤ g ∧ g < w.heap.size := by
  obtain ⟨h0, h1⟩ := h
  rcases h1 with ⟨hv, rfl⟩ | ⟨g, cap, cur, hv, hlo, hg, r⟩
  · omega
  · obtain ⟨rfl, _, _⟩ : A = some ⟨g, 0, none⟩ ∧ n = n ∧ c = cap := by simpa using hv
    exact ⟨g, rfl, hlo, (Array.getElem?_eq_some_iff.1 hg).1⟩

set_option maxHeartbeats 3200000 in
set_option maxRecDepth 100000 in
theorem sortS_any (v : Value) (l : List (Int × Int)) (w : World) (h1 : RdN w v l) (hl : l.length ≤ 40) :
    Calls Tryz.prog 28 #[v] w (NewRow 38 2 (srtN l).length (cN (srtN l)) w) := by
  obtain ⟨A1, c1, rfl, _, hm⟩ := h1.form
  unfold maxLen at hm
  have own1 : (w.alloc (Obj.cells #[] 38)).ownsRow w.heap.size 38 2 (.slice (some ⟨w.heap.size, 0, none⟩) 0 0) (srtN (l.take 0)).length (cN (srtN (l.take 0))) := own_new0 (Nat.le_refl _) rfl
  have hl40 : (l.length : Int) ≤ 40 := by omega
  go_enter Tryz.func28, Tryz.ntmps28
  go_wp2
  go_loopw [3, 4] (fun a i wr => ∃ (k g c : Nat), k ≤ l.length ∧ i = .int .i64 k ∧ a = .slice (some ⟨g, 0, none⟩) (srtN (l.take k)).length c ∧ wr.ownsRow w.heap.size 38 2 (.slice (some ⟨g, 0, none⟩) (srtN (l.take k)).length c) (srtN (l.take k)).length (cN (srtN (l.take k))) ∧ Below w.heap.size w wr) (fun _ i _ => l.length - (intOf i).toNat)
  case atStart => exact ⟨0, w.heap.size, 0, Nat.zero_le _, rfl, rfl, own1, by (repeat' (first | (with_reducible exact Below.refl _ _) | (with_reducible refine bl_alloc ?_ _) | (with_reducible refine bl_drewN ?_ _) | (with_reducible refine bl_drew ?_) | (with_reducible assumption) | (with_reducible refine bl_to ?_ (by assumption)) | (with_reducible refine Below.trans ?_ (by assumption)) | (with_reducible refine Below.trans ?_ (Below.mono (by assumption) ?_)) | (with_reducible refine bl_set ?_ ?_ _) | (simp; done) | (simp; omega) | omega))⟩
  case round =>
    clear own1
    obtain ⟨k, g, c, hk, rfl, rfl, ow, bel⟩ := hrel
    by_cases hlt : k < l.length
    · have hlt' : (k : Int) < (l.length : Int) := by omega
      have hT := srtN_take hlt
      have hTl : (srtN (l.take k)).length ≤ 40 := by have := srtN_len (l.take k); simp at this; omega
      generalize srtN (l.take k) = T at *
      have HT := Lib.hid hT
      clear hT
      obtain ⟨b, o, rfl, hb0, e0, e1⟩ := RdN.at_ h1 hlt
      have hb : b < wr.heap.size := Nat.lt_of_lt_of_le hb0 bel.size
      have e0 := (bel.cell (p := ⟨b, o + k * 2, none⟩) hb0).trans e0
      have e1 := (bel.cell (p := ⟨b, o + k * 2 + 1, none⟩) hb0).trans e1
      have rd : RdN wr (.slice (some ⟨g, 0, none⟩) T.length c) T := Rd.of_own ow
      obtain ⟨hTc, hcm⟩ : T.length ≤ c ∧ c ≤ maxLen := by
        obtain ⟨A, c', hv, q1, q2⟩ := rd.form
        obtain ⟨_, _, rfl⟩ : some ⟨g, 0, none⟩ = A ∧ T.length = T.length ∧ c = c' := by simpa using hv
        exact ⟨q1, q2⟩
      unfold maxLen at hcm
      have sz := bel.size
      obtain ⟨wo, hwo⟩ : ∃ wo, wo = wr := ⟨wr, rfl⟩
      subst hwo
      clear h1
      go_wp2
      go_loopw [5] (fun i wr => ∃ n : Nat, n ≤ T.length ∧ i = .int .i64 n ∧ (∀ j, j < n → ltN (gN T j) (gN l k) = true) ∧ Below wo.heap.size wo wr) (fun i _ => T.length - (intOf i).toNat)
      case atStart => exact ⟨0, Nat.zero_le _, rfl, fun j h => by omega, Below.refl _ _⟩
      case round =>
        obtain ⟨n, hn, rfl, ha, bq⟩ := hrel
        have HA := Lib.hid ha
        clear ha
        have e0 := (bq.cell (p := ⟨b, o + k * 2, none⟩) hb).trans e0
        have e1 := (bq.cell (p := ⟨b, o + k * 2 + 1, none⟩) hb).trans e1
        have rd := rd.bl bq
        have ow := own_bl ow bq
        have bel := bel.trans (bq.mono sz)
        have bqq := bq
        have hbq : b < wr.heap.size := Nat.lt_of_lt_of_le hb bq.size
        have szq := bel.size
        clear bq sz
        have n0 : (0 : Int) ≤ (n : Int) := by omega
        have nT : (n : Int) ≤ (T.length : Int) := by omega
        have nc : (n : Int) ≤ (c : Int) := by omega
        by_cases hnl : n < T.length
        · have hnl' : (n : Int) < (T.length : Int) := by omega
          have hnd : decide (n < T.length) = true := by simpa using hnl
          have hne : ¬ n = T.length := by omega
          have hned : ((n : Int) == (T.length : Int)) = false := by rw [beq_eq_false_iff_ne]; omega
          obtain ⟨b', o', hbo, hg, d0, d1⟩ := RdN.at_ rd hnl
          obtain ⟨rfl, rfl⟩ : g = b' ∧ 0 = o' := by simpa using hbo
          rw [Nat.zero_add] at d0 d1
          cases hlt2 : ltN (gN T n) (gN l k)
          · by_cases heq : gN T n = gN l k
            · have hn2 : insF ltN (gN l k) T = T := insN_in hnl HA.out heq
              have hfin : Hid (srtN (l.take (k + 1)) = T) := by show _ = _; rw [HT.out, hn2]
              have HE := Lib.hid heq
              have hlt3 : ltN ((gN T n).1, (gN T n).2) ((gN l k).1, (gN l k).2) = false := hlt2
              clear hn2 heq
              go_wp2
              (refine region_tail 13 (by kernel_rfl) (by kernel_rfl) ?_; simp only [List.take_succ_cons, List.take_zero, List.drop_succ_cons, List.drop_zero]; (repeat (first | go_big_quiet_skip | (go_big_quiet_want; go_big_quiet_op; (first | go_big_quiet_on | (apply Exists.intro; refine ⟨?_, ?_⟩; (focus (first | fail | fail)); go_big_quiet_on))))); try refine wpQuiet_nil ?_)
              change wpList _ _ _ _ _ wr.drew
              have bel' : Below w.heap.size w wr.drew := by (repeat' (first | (with_reducible exact Below.refl _ _) | (with_reducible refine bl_alloc ?_ _) | (with_reducible refine bl_drewN ?_ _) | (with_reducible refine bl_drew ?_) | (with_reducible assumption) | (with_reducible refine bl_to ?_ (by assumption)) | (with_reducible refine Below.trans ?_ (by assumption)) | (with_reducible refine Below.trans ?_ (Below.mono (by assumption) ?_)) | (with_reducible refine bl_set ?_ ?_ _) | (simp; done) | (simp; omega) | omega))
              have rd' : RdN wr.drew (.slice (some ⟨g, 0, none⟩) T.length c) T := rd.bl (by (repeat' (first | (with_reducible exact Below.refl _ _) | (with_reducible refine bl_alloc ?_ _) | (with_reducible refine bl_drewN ?_ _) | (with_reducible refine bl_drew ?_) | (with_reducible assumption) | (with_reducible refine bl_to ?_ (by assumption)) | (with_reducible refine Below.trans ?_ (by assumption)) | (with_reducible refine Below.trans ?_ (Below.mono (by assumption) ?_)) | (with_reducible refine bl_set ?_ ?_ _) | (simp; done) | (simp; omega) | omega)))
              have ow' := ow.drew
              have e0' : wr.drew.cell? ⟨b, o + k * 2, none⟩ = _ := e0
              have e1' : wr.drew.cell? ⟨b, o + k * 2 + 1, none⟩ = _ := e1
              have hbq' : b < wr.drew.heap.size := hbq
              have szq' : w.heap.size ≤ wr.drew.heap.size := szq
              clear bel rd ow e0 e1 hbq szq d0 d1
              generalize wr.drew = w2 at *
              go_wp2_with (go_at_call 45; refine (less_any _ _ _ _ _).mono ?_; rintro e w3 ⟨rfl, b3⟩)
              have bel3 := bl_to bel' b3
              obtain ⟨b', o', hbo, _, d0, d1⟩ := RdN.at_ (rd'.bl b3) hnl
              obtain ⟨rfl, rfl⟩ : g = b' ∧ 0 = o' := by simpa using hbo
              rw [Nat.zero_add, HE.out] at d0 d1
              have e0 := (b3.cell (p := ⟨b, o + k * 2, none⟩) hbq').trans e0'
              have e1 := (b3.cell (p := ⟨b, o + k * 2 + 1, none⟩) hbq').trans e1'
              have ow3 := own_bl ow' b3
              clear bel' rd' ow' e0' e1' hbo b3
              go_big_quiet (fail)
              go_wp2
              go_roundw
              case rel => exact ⟨k + 1, g, c, by omega, by go_num, by rw [hfin.out], by rw [hfin.out]; exact own_drewN ow3 _, bl_drewN bel3 _⟩
              case measure => simp [intOf]; omega
            · have FT : Hid (n < T.length → ltN (gN T n) (gN l k) = false) := fun _ => hlt2
              have FN : Hid (n < T.length → gN T n ≠ gN l k) := fun _ => heq
              have hlt3 : ltN ((gN T n).1, (gN T n).2) ((gN l k).1, (gN l k).2) = false := hlt2
              have HE := Lib.hid heq
              clear heq
              go_wp2
              (refine region_tail 13 (by kernel_rfl) (by kernel_rfl) ?_; simp only [List.take_succ_cons, List.take_zero, List.drop_succ_cons, List.drop_zero]; (repeat (first | go_big_quiet_skip | (go_big_quiet_want; go_big_quiet_op; (first | go_big_quiet_on | (apply Exists.intro; refine ⟨?_, ?_⟩; (focus (first | fail | fail)); go_big_quiet_on))))); try refine wpQuiet_nil ?_)
              change wpList _ _ _ _ _ wr.drew
              have bel' : Below w.heap.size w wr.drew := by (repeat' (first | (with_reducible exact Below.refl _ _) | (with_reducible refine bl_alloc ?_ _) | (with_reducible refine bl_drewN ?_ _) | (with_reducible refine bl_drew ?_) | (with_reducible assumption) | (with_reducible refine bl_to ?_ (by assumption)) | (with_reducible refine Below.trans ?_ (by assumption)) | (with_reducible refine Below.trans ?_ (Below.mono (by assumption) ?_)) | (with_reducible refine bl_set ?_ ?_ _) | (simp; done) | (simp; omega) | omega))
              have rd' : RdN wr.drew (.slice (some ⟨g, 0, none⟩) T.length c) T := rd.bl (by (repeat' (first | (with_reducible exact Below.refl _ _) | (with_reducible refine bl_alloc ?_ _) | (with_reducible refine bl_drewN ?_ _) | (with_reducible refine bl_drew ?_) | (with_reducible assumption) | (with_reducible refine bl_to ?_ (by assumption)) | (with_reducible refine Below.trans ?_ (by assumption)) | (with_reducible refine Below.trans ?_ (Below.mono (by assumption) ?_)) | (with_reducible refine bl_set ?_ ?_ _) | (simp; done) | (simp; omega) | omega)))
              have ow' := ow.drew
              have e0' : wr.drew.cell? ⟨b, o + k * 2, none⟩ = _ := e0
              have e1' : wr.drew.cell? ⟨b, o + k * 2 + 1, none⟩ = _ := e1
              have hbq' : b < wr.drew.heap.size := hbq
              clear bel rd ow e0 e1 hbq szq d0 d1
              generalize wr.drew = w2 at *
              go_wp2_with (go_at_call 45; refine (less_any _ _ _ _ _).mono ?_; rintro e w3 ⟨rfl, b3⟩)
              have bel3 := bl_to bel' b3
              have rd3 := rd'.bl b3
              obtain ⟨b', o', hbo, _, d0, d1⟩ := RdN.at_ rd3 hnl
              obtain ⟨rfl, rfl⟩ : g = b' ∧ 0 = o' := by simpa using hbo
              rw [Nat.zero_add] at d0 d1
              have e0 := (b3.cell (p := ⟨b, o + k * 2, none⟩) hbq').trans e0'
              have e1 := (b3.cell (p := ⟨b, o + k * 2 + 1, none⟩) hbq').trans e1'
              have ow3 := own_bl ow' b3
              have hb3 : b < w3.heap.size := Nat.lt_of_lt_of_le hbq' b3.size
              clear bel' rd' ow' e0' e1' hbo b3
              have hfin : Hid (srtN (l.take (k + 1)) = T.take n ++ gN l k :: T.drop n) := by show _ = _; rw [HT.out]; exact insN_at hn HA.out FT.out FN.out
              clear FT FN
              by_cases f1 : (gN T n).1 = (gN l k).1
              have f2 : ¬ (gN T n).2 = (gN l k).2 := fun h => HE.out (Prod.ext f1 h)
              all_goals
                go_big_quiet (fail)
                clear f1
                try clear f2
                have bel4 := bl_drewN bel3 nq
                have ow4 := own_drewN ow3 nq
                have rd4 : RdN (w3.drewN nq) (.slice (some ⟨g, 0, none⟩) T.length c) T := rd3.bl (bl_drewN (Below.refl _ _) nq)
                have hb4 : b < (w3.drewN nq).heap.size := hb3
                have e04 : (w3.drewN nq).cell? ⟨b, o + k * 2, none⟩ = some (.int .i64 (gN l k).1) := e0
                have e14 : (w3.drewN nq).cell? ⟨b, o + k * 2 + 1, none⟩ = some (.int .i64 (gN l k).2) := e1
                clear e0 e1 bel3 ow3 rd3 hb3
                generalize w3.drewN nq = w4 at *
                have rt := RdN.take rd4 hn
                have rp := RdN.drop rd4 hn
                have sz4 := bel4.size
                clear rd4
                have lt1 : (T.take n).length ≤ 40 := by rw [List.length_take]; omega
                have hLf : T.take n ++ [gN l k] ++ T.drop n = srtN (l.take (k + 1)) := by rw [hfin.out]; simp
                have hLp : 0 < (srtN (l.take (k + 1))).length := by rw [hfin.out]; simp; omega
                have hdl : (T.drop n).length ≤ 40 := by rw [List.length_drop]; omega
                generalize hT2 : srtN (l.take (k + 1)) = T2 at *
                rw [Nat.zero_add] at rp
                generalize T.take n = P1 at *
                generalize T.drop n = P2 at *
                clear hfin
                go_wp2
                go_region_held3 (fun w' => w'.cell? ⟨b, o + k * 2, none⟩ = some (.int .i64 (gN l k).1) ∧ w'.cell? ⟨b, o + k * 2 + 1, none⟩ = some (.int .i64 (gN l k).2))
                  (first | exact ⟨u0, u1⟩ | exact ⟨p0, p1⟩ | exact ⟨q0, q1⟩ | go_keep)
                  (first
                    | (refine step_is_append (.tmp 50) (.tmp 53) _ rfl ?_; refine step_app_Ng _ (by rfl) _ _ (by rfl) w4.heap.size _ [] (by rfl) (by first | exact own_new0d (Nat.le_refl _) rfl | exact own_new0d (by simp) (by simp) | exact ((own_new0 (Nat.le_refl _) rfl).alloc _).drew) _ (P1) (by rfl) (rt.bl (by (repeat' (first | (with_reducible exact Below.refl _ _) | (with_reducible refine bl_alloc ?_ _) | (with_reducible refine bl_drewN ?_ _) | (with_reducible refine bl_drew ?_) | (with_reducible assumption) | (with_reducible refine bl_to ?_ (by assumption)) | (with_reducible refine Below.trans ?_ (by assumption)) | (with_reducible refine Below.trans ?_ (Below.mono (by assumption) ?_)) | (with_reducible refine bl_set ?_ ?_ _) | (simp; done) | (simp; omega) | omega)))) (by simp; omega) (by (first | omega | (simp; done) | (simp; omega))) (P1) (by rfl) ?_; intro A1 c5 w5 ow5 b5 gr5; replace gr5 : World.grownBy _ w5 (some _) := gr5; have lt5 : b < w5.heap.size := Nat.lt_of_lt_of_le (by simp; omega) b5.size; have u0 : w5.cell? ⟨b, o + k * 2, none⟩ = some (.int .i64 (gN l k).1) := (b5.cell (p := ⟨b, o + k * 2, none⟩) hb4).trans (by simp [go_sem, e04, hb4]); have u1 : w5.cell? ⟨b, o + k * 2 + 1, none⟩ = some (.int .i64 (gN l k).2) := (b5.cell (p := ⟨b, o + k * 2 + 1, none⟩) hb4).trans (by simp [go_sem, e14, hb4]))
                    | (refine step_is_append (.tmp 54) (.tmp 59) _ rfl ?_; refine step_app_N1 _ (by rfl) _ _ (by rfl) w4.heap.size (.slice A1 (P1).length c5) (P1) (by rfl) (by first | exact ow5 | exact ow5.alloc _) _ (gN l k).1 (gN l k).2 (by rfl) (by first | (simp [go_sem]; done) | exact (cell_grown gr5 (by (first | omega | (simp; done) | (simp; omega))) (by intro k hk; simp at hk; omega) 0).trans (by simp [go_sem])) (by first | (simp [go_sem]; done) | exact (cell_grown gr5 (by (first | omega | (simp; done) | (simp; omega))) (by intro k hk; simp at hk; omega) 1).trans (by simp [go_sem])) (by omega) (by have := b5.size; simp at *; omega) ?_; intro A2 m2 c2 w6 ow6 b6 gr6 at6; have p0 : w6.cell? ⟨b, o + k * 2, none⟩ = some (.int .i64 (gN l k).1) := (b6.cell (p := ⟨b, o + k * 2, none⟩) hb4).trans (by first | exact u0 | simp [go_sem, u0, lt5]); have p1 : w6.cell? ⟨b, o + k * 2 + 1, none⟩ = some (.int .i64 (gN l k).2) := (b6.cell (p := ⟨b, o + k * 2 + 1, none⟩) hb4).trans (by first | exact u1 | simp [go_sem, u1, lt5]))
                    | (refine step_is_append (.tmp 60) (.tmp 63) _ rfl ?_; refine step_app_Ng _ (by rfl) _ _ (by rfl) w4.heap.size (.slice A2 m2 c2) (P1 ++ [gN l k]) (by rfl) ow6 _ (P2) (by rfl) (rp.bl (by (repeat' (first | (with_reducible exact Below.refl _ _) | (with_reducible refine bl_alloc ?_ _) | (with_reducible refine bl_drewN ?_ _) | (with_reducible refine bl_drew ?_) | (with_reducible assumption) | (with_reducible refine bl_to ?_ (by assumption)) | (with_reducible refine Below.trans ?_ (by assumption)) | (with_reducible refine Below.trans ?_ (Below.mono (by assumption) ?_)) | (with_reducible refine bl_set ?_ ?_ _) | (simp; done) | (simp; omega) | omega)))) (by rw [List.length_append]; simp; omega) (by have := b5.size; have := b6.size; simp at *; omega) T2 hLf ?_; intro A3 c3 w7 ow7 b7 gr7; have q0 : w7.cell? ⟨b, o + k * 2, none⟩ = some (.int .i64 (gN l k).1) := (b7.cell (p := ⟨b, o + k * 2, none⟩) hb4).trans p0; have q1 : w7.cell? ⟨b, o + k * 2 + 1, none⟩ = some (.int .i64 (gN l k).2) := (b7.cell (p := ⟨b, o + k * 2 + 1, none⟩) hb4).trans p1))
                all_goals
                  obtain ⟨g7, rfl, _, _⟩ := own_headN ow7 hLp
                  have bel7 : Below w.heap.size w w7 := bl_to bel4 (by (repeat' (first | (with_reducible exact Below.refl _ _) | (with_reducible refine bl_alloc ?_ _) | (with_reducible refine bl_drewN ?_ _) | (with_reducible refine bl_drew ?_) | (with_reducible assumption) | (with_reducible refine bl_to ?_ (by assumption)) | (with_reducible refine Below.trans ?_ (by assumption)) | (with_reducible refine Below.trans ?_ (Below.mono (by assumption) ?_)) | (with_reducible refine bl_set ?_ ?_ _) | (simp; done) | (simp; omega) | omega)))
                  have sz7 : w.heap.size ≤ w4.heap.size := sz4
                  have HF := Lib.hid hT2
                  clear hT2 hLf
                  go_wp2
                  go_roundw
                  case rel => exact ⟨k + 1, g7, c3, by omega, by go_num, by rw [HF.out], by rw [HF.out]; exact own_lo ow7 sz7, bel7⟩
                  case measure => simp [intOf]; omega
          · go_wp2
            (refine region_tail 13 (by kernel_rfl) (by kernel_rfl) ?_; simp only [List.take_succ_cons, List.take_zero, List.drop_succ_cons, List.drop_zero]; (repeat (first | go_big_quiet_skip | (go_big_quiet_want; go_big_quiet_op; (first | go_big_quiet_on | (apply Exists.intro; refine ⟨?_, ?_⟩; (focus (first | fail | fail)); go_big_quiet_on))))); try refine wpQuiet_nil ?_)
            change wpList _ _ _ _ _ wr.drew
            have bb : Below wo.heap.size wo wr.drew := bl_drew bqq
            clear bel rd ow e0 e1 hbq szq d0 d1
            generalize wr.drew = w2 at *
            go_wp2_with (go_at_call 45; refine (less_any _ _ _ _ _).mono ?_; rintro e w3 ⟨rfl, b3⟩)
            go_roundw
            case rel => exact ⟨n + 1, by omega, by go_num, fun j hj => by by_cases ej : j = n; (· rw [ej]; exact hlt2); (· exact HA.out j (by omega)), bl_to bb b3⟩
            case measure => simp [intOf]; omega
        · have FT : Hid (n < T.length → ltN (gN T n) (gN l k) = false) := fun h => absurd h hnl
          have FN : Hid (n < T.length → gN T n ≠ gN l k) := fun h => absurd h hnl
          have hne : n = T.length := by omega
          have hned : ((n : Int) == (T.length : Int)) = true := by rw [hne]; simp
          have hnl' : ¬ (n : Int) < (T.length : Int) := by omega
          have hnd : decide (n < T.length) = false := by simpa using hnl
          clear hne
          go_wp2
          go_big_quiet (fail)
          have bel3 := bl_drewN bel nq
          have rd3 := rd.bl (bl_drewN (Below.refl _ _) nq)
          have ow3 := own_drewN ow nq
          have e0' : (wr.drewN nq).cell? ⟨b, o + k * 2, none⟩ = some (.int .i64 (gN l k).1) := e0
          have e1' : (wr.drewN nq).cell? ⟨b, o + k * 2 + 1, none⟩ = some (.int .i64 (gN l k).2) := e1
          have hb3 : b < (wr.drewN nq).heap.size := hbq
          clear bel rd ow e0 e1 hbq szq
          have e0 := e0'
          have e1 := e1'
          clear e0' e1'
          generalize wr.drewN nq = w3 at *
          go_wp2
          have hfin : Hid (srtN (l.take (k + 1)) = T.take n ++ gN l k :: T.drop n) := by show _ = _; rw [HT.out]; exact insN_at hn HA.out FT.out FN.out
          clear FT FN
          go_big_quiet (fail)
          have bel4 := bl_drewN bel3 nq
          have ow4 := own_drewN ow3 nq
          have rd4 : RdN (w3.drewN nq) (.slice (some ⟨g, 0, none⟩) T.length c) T := rd3.bl (bl_drewN (Below.refl _ _) nq)
          have hb4 : b < (w3.drewN nq).heap.size := hb3
          have e04 : (w3.drewN nq).cell? ⟨b, o + k * 2, none⟩ = some (.int .i64 (gN l k).1) := e0
          have e14 : (w3.drewN nq).cell? ⟨b, o + k * 2 + 1, none⟩ = some (.int .i64 (gN l k).2) := e1
          clear e0 e1 bel3 ow3 rd3 hb3
          generalize w3.drewN nq = w4 at *
          have rt := RdN.take rd4 hn
          have rp := RdN.drop rd4 hn
          have sz4 := bel4.size
          clear rd4
          have lt1 : (T.take n).length ≤ 40 := by rw [List.length_take]; omega
          have hLf : T.take n ++ [gN l k] ++ T.drop n = srtN (l.take (k + 1)) := by rw [hfin.out]; simp
          have hLp : 0 < (srtN (l.take (k + 1))).length := by rw [hfin.out]; simp; omega
          have hdl : (T.drop n).length ≤ 40 := by rw [List.length_drop]; omega
          generalize hT2 : srtN (l.take (k + 1)) = T2 at *
          rw [Nat.zero_add] at rp
          generalize T.take n = P1 at *
          generalize T.drop n = P2 at *
          clear hfin
          go_wp2
          go_region_held3 (fun w' => w'.cell? ⟨b, o + k * 2, none⟩ = some (.int .i64 (gN l k).1) ∧ w'.cell? ⟨b, o + k * 2 + 1, none⟩ = some (.int .i64 (gN l k).2))
            (first | exact ⟨u0, u1⟩ | exact ⟨p0, p1⟩ | exact ⟨q0, q1⟩ | go_keep)
            (first
              | (refine step_is_append (.tmp 50) (.tmp 53) _ rfl ?_; refine step_app_Ng _ (by rfl) _ _ (by rfl) w4.heap.size _ [] (by rfl) (by first | exact own_new0d (Nat.le_refl _) rfl | exact own_new0d (by simp) (by simp) | exact ((own_new0 (Nat.le_refl _) rfl).alloc _).drew) _ (P1) (by rfl) (rt.bl (by (repeat' (first | (with_reducible exact Below.refl _ _) | (with_reducible refine bl_alloc ?_ _) | (with_reducible refine bl_drewN ?_ _) | (with_reducible refine bl_drew ?_) | (with_reducible assumption) | (with_reducible refine bl_to ?_ (by assumption)) | (with_reducible refine Below.trans ?_ (by assumption)) | (with_reducible refine Below.trans ?_ (Below.mono (by assumption) ?_)) | (with_reducible refine bl_set ?_ ?_ _) | (simp; done) | (simp; omega) | omega)))) (by simp; omega) (by (first | omega | (simp; done) | (simp; omega))) (P1) (by rfl) ?_; intro A1 c5 w5 ow5 b5 gr5; replace gr5 : World.grownBy _ w5 (some _) := gr5; have lt5 : b < w5.heap.size := Nat.lt_of_lt_of_le (by simp; omega) b5.size; have u0 : w5.cell? ⟨b, o + k * 2, none⟩ = some (.int .i64 (gN l k).1) := (b5.cell (p := ⟨b, o + k * 2, none⟩) hb4).trans (by simp [go_sem, e04, hb4]); have u1 : w5.cell? ⟨b, o + k * 2 + 1, none⟩ = some (.int .i64 (gN l k).2) := (b5.cell (p := ⟨b, o + k * 2 + 1, none⟩) hb4).trans (by simp [go_sem, e14, hb4]))
              | (refine step_is_append (.tmp 54) (.tmp 59) _ rfl ?_; refine step_app_N1 _ (by rfl) _ _ (by rfl) w4.heap.size (.slice A1 (P1).length c5) (P1) (by rfl) (by first | exact ow5 | exact ow5.alloc _) _ (gN l k).1 (gN l k).2 (by rfl) (by first | (simp [go_sem]; done) | exact (cell_grown gr5 (by (first | omega | (simp; done) | (simp; omega))) (by intro k hk; simp at hk; omega) 0).trans (by simp [go_sem])) (by first | (simp [go_sem]; done) | exact (cell_grown gr5 (by (first | omega | (simp; done) | (simp; omega))) (by intro k hk; simp at hk; omega) 1).trans (by simp [go_sem])) (by omega) (by have := b5.size; simp at *; omega) ?_; intro A2 m2 c2 w6 ow6 b6 gr6 at6; have p0 : w6.cell? ⟨b, o + k * 2, none⟩ = some (.int .i64 (gN l k).1) := (b6.cell (p := ⟨b, o + k * 2, none⟩) hb4).trans (by first | exact u0 | simp [go_sem, u0, lt5]); have p1 : w6.cell? ⟨b, o + k * 2 + 1, none⟩ = some (.int .i64 (gN l k).2) := (b6.cell (p := ⟨b, o + k * 2 + 1, none⟩) hb4).trans (by first | exact u1 | simp [go_sem, u1, lt5]))
              | (refine step_is_append (.tmp 60) (.tmp 63) _ rfl ?_; refine step_app_Ng _ (by rfl) _ _ (by rfl) w4.heap.size (.slice A2 m2 c2) (P1 ++ [gN l k]) (by rfl) ow6 _ (P2) (by rfl) (rp.bl (by (repeat' (first | (with_reducible exact Below.refl _ _) | (with_reducible refine bl_alloc ?_ _) | (with_reducible refine bl_drewN ?_ _) | (with_reducible refine bl_drew ?_) | (with_reducible assumption) | (with_reducible refine bl_to ?_ (by assumption)) | (with_reducible refine Below.trans ?_ (by assumption)) | (with_reducible refine Below.trans ?_ (Below.mono (by assumption) ?_)) | (with_reducible refine bl_set ?_ ?_ _) | (simp; done) | (simp; omega) | omega)))) (by rw [List.length_append]; simp; omega) (by have := b5.size; have := b6.size; simp at *; omega) T2 hLf ?_; intro A3 c3 w7 ow7 b7 gr7; have q0 : w7.cell? ⟨b, o + k * 2, none⟩ = some (.int .i64 (gN l k).1) := (b7.cell (p := ⟨b, o + k * 2, none⟩) hb4).trans p0; have q1 : w7.cell? ⟨b, o + k * 2 + 1, none⟩ = some (.int .i64 (gN l k).2) := (b7.cell (p := ⟨b, o + k * 2 + 1, none⟩) hb4).trans p1))
          all_goals
            obtain ⟨g7, rfl, _, _⟩ := own_headN ow7 hLp
            have bel7 : Below w.heap.size w w7 := bl_to bel4 (by (repeat' (first | (with_reducible exact Below.refl _ _) | (with_reducible refine bl_alloc ?_ _) | (with_reducible refine bl_drewN ?_ _) | (with_reducible refine bl_drew ?_) | (with_reducible assumption) | (with_reducible refine bl_to ?_ (by assumption)) | (with_reducible refine Below.trans ?_ (by assumption)) | (with_reducible refine Below.trans ?_ (Below.mono (by assumption) ?_)) | (with_reducible refine bl_set ?_ ?_ _) | (simp; done) | (simp; omega) | omega)))
            have sz7 : w.heap.size ≤ w4.heap.size := sz4
            have HF := Lib.hid hT2
            clear hT2 hLf
            go_wp2
            go_roundw
            case rel => exact ⟨k + 1, g7, c3, by omega, by go_num, by rw [HF.out], by rw [HF.out]; exact own_lo ow7 sz7, bel7⟩
            case measure => simp [intOf]; omega
    · have hlt' : ¬ (k : Int) < (l.length : Int) := by omega
      obtain rfl : k = l.length := by omega
      go_wp2
      rw [List.take_length] at *
      go_ret
      exact ⟨_, c, rfl, ow, bel⟩
end Go.Proofs.YthgllpocljeegaaGreatDoor
