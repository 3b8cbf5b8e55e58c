/- CylinderOfDisc of the program and of the reference; lengths up to 2^20. -/
import Derived.Test.YtoijjjaodfincaaBuildCylinder
import Derived.Test.YtoijjjaodfincaaCount
namespace Go.Proofs.Ytoijjjaodfincaa
open Go.RowKit

/-- the rings below k that stand in x -/
def memN (x : Int) : Nat → List Int
  | 0 => []
  | k + 1 => if bitI x k = 1 then memN x k ++ [(k : Int)] else memN x k
theorem memN_len (x : Int) (k : Nat) : (memN x k).length ≤ k := by
  induction k with
  | zero => simp [memN]
  | succ k ih =>
    unfold memN
    split
    · rw [List.length_append]; simp; omega
    · omega
theorem memN_yes {x : Int} {k : Nat} (h : bitI x k = 1) : memN x (k + 1) = memN x k ++ [(k : Int)] := by rw [memN, if_pos h]
theorem memN_no {x : Int} {k : Nat} (h : ¬ bitI x k = 1) : memN x (k + 1) = memN x k := by rw [memN, if_neg h]
def tagN (m : List Int) (a : Nat) : List (Int × Int) := m.map fun t => (t, (a : Int))
theorem tagN_len (m : List Int) (a : Nat) : (tagN m a).length = m.length := by simp [tagN]
def codN (r : Nat) (l : List Int) : Nat → List (Int × Int)
  | 0 => []
  | a + 1 => codN r l a ++ tagN (memN (gi l a) r) a
theorem codN_len (r : Nat) (l : List Int) (k : Nat) : (codN r l k).length ≤ k * r := by
  induction k with
  | zero => simp [codN]
  | succ k ih =>
    have := memN_len (gi l k) r
    rw [codN, List.length_append, tagN_len, Nat.succ_mul]
    omega
theorem tag_take {m : List Int} {a j : Nat} (h : j < m.length) : tagN (m.take (j + 1)) a = tagN (m.take j) a ++ [(gi m j, (a : Int))] := by
  rw [take_succ_gi h, tagN, tagN, List.map_append]
  rfl
def codB (r : Int) (l : List Int) : Bool := discB r l && decide (countF r l ≤ 100)
def codS (r : Int) (l : List Int) : Int := if codB r l then l.length else 0
def codR (r : Int) (l : List Int) : Int := if codB r l then r else 0
def codL (r : Int) (l : List Int) : List (Int × Int) := if codB r l then codN r.toNat l l.length else []
theorem codL_len (r : Int) (l : List Int) : (codL r l).length ≤ 1048576 := by
  unfold codL
  split
  · rename_i h
    simp only [codB, Bool.and_eq_true] at h
    obtain ⟨⟨r1, r2⟩, ⟨l1, l2⟩, _⟩ := discB_iff h.1
    have := codN_len r.toNat l l.length
    have h2 : l.length * r.toNat ≤ 96 * 16 := Nat.mul_le_mul (by omega) (by omega)
    omega
  · simp
def NewCylB (n r : Int) (l : List (Int × Int)) (b : Bool) (w : World) (en : Ending) (w' : World) : Prop :=
  ∃ A c, en = .returned (.tuple #[.agg #[.int .i64 n, .int .i64 r, .slice A l.length c], .bool b]) ∧ w'.ownsRow w.heap.size 63 2 (.slice A l.length c) l.length (cP l) ∧ Below w.heap.size w w'

set_option maxHeartbeats 800000 in
theorem members_any (x : Int) (r : Nat) (w : World) (hr : r ≤ 16) :
    Calls Try.prog 87 #[.int .i64 x, .int .i64 (r : Int)] w (NewRow 3 1 (memN x r).length (cI (memN x r)) w) := by
  have own1 : (w.alloc (Obj.cells #[] 3)).ownsRow w.heap.size 3 1 (.slice (some ⟨w.heap.size, 0, none⟩) 0 0) (memN x 0).length (cI (memN x 0)) := own_new0 (Nat.le_refl _) rfl
  go_enter Try.func87, Try.ntmps87
  go_wp2
  go_loopw [5, 6] (fun v i wr => ∃ k : Nat, k ≤ r ∧ i = .int .i64 k ∧ wr.ownsRow w.heap.size 3 1 v (memN x k).length (cI (memN x k)) ∧ Below w.heap.size w wr ∧ w.heap.size ≤ wr.heap.size) (fun _ i _ => r - (intOf i).toNat)
  case atStart => exact ⟨0, Nat.zero_le _, rfl, own1, by (repeat' (first | (with_reducible exact Below.refl _ _) | (with_reducible refine bl_alloc ?_ _) | (with_reducible refine bl_drewN ?_ _) | (with_reducible refine bl_drew ?_) | (with_reducible assumption) | (with_reducible refine bl_to ?_ (by assumption)) | (with_reducible refine Below.trans ?_ (by assumption)) | (with_reducible refine Below.trans ?_ (Below.mono (by assumption) ?_)) | (with_reducible refine bl_set ?_ ?_ _) | (simp; done) | (simp; omega) | omega)), by simp⟩
  case round =>
    clear own1
    obtain ⟨k, hk, rfl, ow, bel, szr⟩ := hrel
    have hll := memN_len x k
    by_cases hlt : k < r
    · have hlt' : (k : Int) < (r : Int) := by omega
      by_cases hb : bitI x k = 1
      · have hh := Lib.hid (memN_yes hb)
        have hbb : (bits .and .i64 (x / 2 ^ k) 1 == 1) = true := by unfold bitI at hb; rw [hb]; rfl
        clear hb
        go_wp2_with (at_builtin; refine wpList_app_int _ rfl _ _ rfl w.heap.size _ _ rfl (ow.alloc _) _ (k : Int) rfl ?_ (by omega) (by simp; omega) ?_; rotate_left; intro v' w' ow' bel')
        · have bel2 : Below w.heap.size w w' := Below.trans (by (repeat' (first | (with_reducible exact Below.refl _ _) | (with_reducible refine bl_alloc ?_ _) | (with_reducible refine bl_drewN ?_ _) | (with_reducible refine bl_drew ?_) | (with_reducible assumption) | (with_reducible refine bl_to ?_ (by assumption)) | (with_reducible refine Below.trans ?_ (by assumption)) | (with_reducible refine Below.trans ?_ (Below.mono (by assumption) ?_)) | (with_reducible refine bl_set ?_ ?_ _) | (simp; done) | (simp; omega) | omega))) bel'
          have sz2 := bel'.size
          simp only [World.size_alloc] at sz2
          go_roundw
          case rel => exact ⟨k + 1, by omega, by go_num, by rw [hh.out]; exact ow', bel2, by omega⟩
          case measure => simp [intOf]; omega
        all_goals (simp; done)
      · have hh := Lib.hid (memN_no hb)
        have hbb : (bits .and .i64 (x / 2 ^ k) 1 == 1) = false := by unfold bitI at hb; simpa using hb
        clear hb
        go_wp2
        go_roundw
        case rel => exact ⟨k + 1, by omega, by go_num, by rw [hh.out]; exact ow, bel, szr⟩
        case measure => simp [intOf]; omega
    · have hlt' : ¬ (k : Int) < (r : Int) := by omega
      obtain rfl : k = r := by omega
      go_wp2
      go_ret
      obtain ⟨A, c, rfl⟩ := own_form ow
      exact ⟨A, c, rfl, ow, bel⟩

theorem tagN_snoc (m : List Int) (x : Int) (a : Nat) : tagN (m ++ [x]) a = tagN m a ++ [(x, (a : Int))] := by simp [tagN]
theorem own_form3 {w : World} {lo : Nat} {e : TypeId} {s n : Nat} {v : Value} {xs : List Value} (h : w.ownsRow lo e s v n xs) : ∃ A m c, v = .slice A m c := by
  obtain ⟨A, c, h⟩ := own_form h
  exact ⟨A, n, c, h⟩
theorem apart_own {A v : Value} {lo hi : Nat} (hA : ∀ k, A.ownBlock = some k → lo ≤ k ∧ k < hi) (hv : ∀ k, v.ownBlock = some k → k < lo ∨ hi ≤ k) : A.ownBlock = none ∨ A.ownBlock ≠ v.ownBlock := by
  cases e : A.ownBlock with
  | none => exact .inl rfl
  | some k =>
    refine .inr fun he => ?_
    have h1 := hA k e
    have h2 := hv k he.symm
    omega
theorem apart_new {v v2 : Value} {lo hi g : Nat} (hv : ∀ k, v.ownBlock = some k → k < lo ∨ hi ≤ k) (h : v2.ownBlock = v.ownBlock ∨ v2.ownBlock = some g) (hg : hi ≤ g) : ∀ k, v2.ownBlock = some k → k < lo ∨ hi ≤ k := by
  intro k hk
  rcases h with h | h
  · exact hv k (h ▸ hk)
  · rw [h] at hk
    cases hk
    exact .inr hg

set_option maxHeartbeats 6400000 in
set_option maxRecDepth 100000 in
theorem codI_any (r : Int) (v : Value) (l : List Int) (w : World) (h1 : RdI w v l) (hl : l.length ≤ 1048576) :
    Calls Try.prog 56 #[.agg #[.int .i64 r, v]] w (NewCylB (codS r l) (codR r l) (codL r l) (codB r l) w) := by
  cases ho : codB r l
  · have hS : codS r l = 0 := by simp [codS, ho]
    have hR : codR r l = 0 := by simp [codR, ho]
    have hL : codL r l = [] := by simp [codL, ho]
    rw [hS, hR, hL]
    clear hS hR hL
    cases hc : discB r l
    · go_enter Try.func56, Try.ntmps56
      go_wp2_with (go_at_call 19; refine (discI_ok _ _ l _ (h1.bl (by (repeat' (first | (with_reducible exact Below.refl _ _) | (with_reducible refine bl_alloc ?_ _) | (with_reducible refine bl_drewN ?_ _) | (with_reducible refine bl_drew ?_) | (with_reducible assumption) | (with_reducible refine bl_to ?_ (by assumption)) | (with_reducible refine Below.trans ?_ (by assumption)) | (with_reducible refine Below.trans ?_ (Below.mono (by assumption) ?_)) | (with_reducible refine bl_set ?_ ?_ _) | (simp; done) | (simp; omega) | omega)))) hl).mono ?_; rintro e w1 ⟨rfl, b1⟩; obtain ⟨k1, f1, z1⟩ := bcell b1)
      exact bodyPost_ret (v := .tuple #[.agg #[.int .i64 0, .int .i64 0, .slice none 0 0], .bool false]) (by simp [results, Try.results56, go_sem, k1, (z1 (w.heap.size + 1) (by (first | omega | (simp; done) | (simp; omega))))]) rfl ⟨none, 0, rfl, World.ownsRow_nil _ _ _ _, by (repeat' (first | (with_reducible exact Below.refl _ _) | (with_reducible refine bl_alloc ?_ _) | (with_reducible refine bl_drewN ?_ _) | (with_reducible refine bl_drew ?_) | (with_reducible assumption) | (with_reducible refine bl_to ?_ (by assumption)) | (with_reducible refine Below.trans ?_ (by assumption)) | (with_reducible refine Below.trans ?_ (Below.mono (by assumption) ?_)) | (with_reducible refine bl_set ?_ ?_ _) | (simp; done) | (simp; omega) | omega))⟩
    have ht : 100 < countF r l := by simp [codB, hc] at ho; omega
    go_enter Try.func56, Try.ntmps56
    go_wp2_with (first | ((go_at_call 19; refine (discI_ok _ _ l _ (h1.bl (by (repeat' (first | (with_reducible exact Below.refl _ _) | (with_reducible refine bl_alloc ?_ _) | (with_reducible refine bl_drewN ?_ _) | (with_reducible refine bl_drew ?_) | (with_reducible assumption) | (with_reducible refine bl_to ?_ (by assumption)) | (with_reducible refine Below.trans ?_ (by assumption)) | (with_reducible refine Below.trans ?_ (Below.mono (by assumption) ?_)) | (with_reducible refine bl_set ?_ ?_ _) | (simp; done) | (simp; omega) | omega)))) hl).mono ?_; rintro e w1 ⟨rfl, b1⟩; obtain ⟨k1, f1, z1⟩ := bcell b1); have y1 : w.heap.size + 1 < w1.heap.size := z1 _ (by (first | omega | (simp; done) | (simp; omega))); have y0 : w.heap.size < w1.heap.size := z1 _ (by (first | omega | (simp; done) | (simp; omega)))) | ((go_at_call 30; refine (countI_any _ _ l _ (h1.bl (by (repeat' (first | (with_reducible exact Below.refl _ _) | (with_reducible refine bl_alloc ?_ _) | (with_reducible refine bl_drewN ?_ _) | (with_reducible refine bl_drew ?_) | (with_reducible assumption) | (with_reducible refine bl_to ?_ (by assumption)) | (with_reducible refine Below.trans ?_ (by assumption)) | (with_reducible refine Below.trans ?_ (Below.mono (by assumption) ?_)) | (with_reducible refine bl_set ?_ ?_ _) | (simp; done) | (simp; omega) | omega)))) hl).mono ?_; rintro e w2 ⟨rfl, b2⟩; obtain ⟨k2, f2, z2⟩ := bcell b2); have y2 : w.heap.size + 1 < w2.heap.size := z2 _ (by (first | omega | (simp; done) | (simp; omega)))))
    have q0 : w2.cell? ⟨w.heap.size + 1, 0, none⟩ = some (.int .i64 0) := (k2 _ _ (by (first | omega | (simp; done) | (simp; omega)))).trans ((k1 _ _ (by (first | omega | (simp; done) | (simp; omega)))).trans (by simp [go_sem]))
    have p0 : w2.frozen? ⟨w.heap.size + 1, 0, none⟩ = false := (f2 _ _ (by (first | omega | (simp; done) | (simp; omega)))).trans ((f1 _ _ (by (first | omega | (simp; done) | (simp; omega)))).trans (by simp [go_sem]))
    have q1 : w2.cell? ⟨w.heap.size + 1, 1, none⟩ = some (.int .i64 0) := (k2 _ _ (by (first | omega | (simp; done) | (simp; omega)))).trans ((k1 _ _ (by (first | omega | (simp; done) | (simp; omega)))).trans (by simp [go_sem]))
    have p1 : w2.frozen? ⟨w.heap.size + 1, 1, none⟩ = false := (f2 _ _ (by (first | omega | (simp; done) | (simp; omega)))).trans ((f1 _ _ (by (first | omega | (simp; done) | (simp; omega)))).trans (by simp [go_sem]))
    have q2 : w2.cell? ⟨w.heap.size + 1, 2, none⟩ = some (.slice none 0 0) := (k2 _ _ (by (first | omega | (simp; done) | (simp; omega)))).trans ((k1 _ _ (by (first | omega | (simp; done) | (simp; omega)))).trans (by simp [go_sem]))
    have p2 : w2.frozen? ⟨w.heap.size + 1, 2, none⟩ = false := (f2 _ _ (by (first | omega | (simp; done) | (simp; omega)))).trans ((f1 _ _ (by (first | omega | (simp; done) | (simp; omega)))).trans (by simp [go_sem]))
    clear k1 k2 f1 f2
    exact bodyPost_ret (v := .tuple #[.agg #[.int .i64 0, .int .i64 0, .slice none 0 0], .bool false]) (by simp [results, Try.results56, go_sem, q0, q1, q2, p0, p1, p2]) rfl ⟨none, 0, rfl, World.ownsRow_nil _ _ _ _, by (repeat' (first | (with_reducible exact Below.refl _ _) | (with_reducible refine bl_alloc ?_ _) | (with_reducible refine bl_drewN ?_ _) | (with_reducible refine bl_drew ?_) | (with_reducible assumption) | (with_reducible refine bl_to ?_ (by assumption)) | (with_reducible refine Below.trans ?_ (by assumption)) | (with_reducible refine Below.trans ?_ (Below.mono (by assumption) ?_)) | (with_reducible refine bl_set ?_ ?_ _) | (simp; done) | (simp; omega) | omega))⟩
  · have hS : codS r l = l.length := by simp [codS, ho]
    have hR : codR r l = r := by simp [codR, ho]
    have hL : codL r l = codN r.toNat l l.length := by simp [codL, ho]
    rw [hS, hR, hL]
    clear hS hR hL
    obtain ⟨hc, ht⟩ : discB r l = true ∧ countF r l ≤ 100 := by simpa [codB] using ho
    obtain ⟨⟨r1, r2⟩, ⟨l1, l2⟩, _⟩ := discB_iff hc
    obtain ⟨n, rfl⟩ := Int.eq_ofNat_of_zero_le (show 0 ≤ r by omega)
    rw [Int.toNat_natCast]
    have htn : ¬ 100 < countF (n : Int) l := by omega
    have hmul : ∀ a : Nat, a ≤ l.length → a * n ≤ 96 * 16 := fun a h => Nat.mul_le_mul (by omega) (by omega)
    obtain ⟨A0, c0, rfl, hc0, hm0⟩ := h1.form
    go_enter Try.func56, Try.ntmps56
    go_wp2_with (first | ((go_at_call 19; refine (discI_ok _ _ l _ (h1.bl (by (repeat' (first | (with_reducible exact Below.refl _ _) | (with_reducible refine bl_alloc ?_ _) | (with_reducible refine bl_drewN ?_ _) | (with_reducible refine bl_drew ?_) | (with_reducible assumption) | (with_reducible refine bl_to ?_ (by assumption)) | (with_reducible refine Below.trans ?_ (by assumption)) | (with_reducible refine Below.trans ?_ (Below.mono (by assumption) ?_)) | (with_reducible refine bl_set ?_ ?_ _) | (simp; done) | (simp; omega) | omega)))) hl).mono ?_; rintro e w1 ⟨rfl, b1⟩; obtain ⟨k1, f1, z1⟩ := bcell b1); have y1 : w.heap.size + 1 < w1.heap.size := z1 _ (by (first | omega | (simp; done) | (simp; omega))); have y0 : w.heap.size < w1.heap.size := z1 _ (by (first | omega | (simp; done) | (simp; omega)))) | ((go_at_call 30; refine (countI_any _ _ l _ (h1.bl (by (repeat' (first | (with_reducible exact Below.refl _ _) | (with_reducible refine bl_alloc ?_ _) | (with_reducible refine bl_drewN ?_ _) | (with_reducible refine bl_drew ?_) | (with_reducible assumption) | (with_reducible refine bl_to ?_ (by assumption)) | (with_reducible refine Below.trans ?_ (by assumption)) | (with_reducible refine Below.trans ?_ (Below.mono (by assumption) ?_)) | (with_reducible refine bl_set ?_ ?_ _) | (simp; done) | (simp; omega) | omega)))) hl).mono ?_; rintro e w2 ⟨rfl, b2⟩; obtain ⟨k2, f2, z2⟩ := bcell b2); have y2 : w.heap.size + 1 < w2.heap.size := z2 _ (by (first | omega | (simp; done) | (simp; omega)))))
    have x0 : w2.cell? ⟨w.heap.size, 0, none⟩ = some (.int .i64 (n : Int)) := (k2 _ _ (by (first | omega | (simp; done) | (simp; omega)))).trans ((k1 _ _ (by (first | omega | (simp; done) | (simp; omega)))).trans (by simp [go_sem]))
    have x1 : w2.cell? ⟨w.heap.size, 1, none⟩ = some (.slice A0 l.length c0) := (k2 _ _ (by (first | omega | (simp; done) | (simp; omega)))).trans ((k1 _ _ (by (first | omega | (simp; done) | (simp; omega)))).trans (by simp [go_sem]))
    have q0 : w2.cell? ⟨w.heap.size + 1, 0, none⟩ = some (.int .i64 0) := (k2 _ _ (by (first | omega | (simp; done) | (simp; omega)))).trans ((k1 _ _ (by (first | omega | (simp; done) | (simp; omega)))).trans (by simp [go_sem]))
    have p0 : w2.frozen? ⟨w.heap.size + 1, 0, none⟩ = false := (f2 _ _ (by (first | omega | (simp; done) | (simp; omega)))).trans ((f1 _ _ (by (first | omega | (simp; done) | (simp; omega)))).trans (by simp [go_sem]))
    have q1 : w2.cell? ⟨w.heap.size + 1, 1, none⟩ = some (.int .i64 0) := (k2 _ _ (by (first | omega | (simp; done) | (simp; omega)))).trans ((k1 _ _ (by (first | omega | (simp; done) | (simp; omega)))).trans (by simp [go_sem]))
    have p1 : w2.frozen? ⟨w.heap.size + 1, 1, none⟩ = false := (f2 _ _ (by (first | omega | (simp; done) | (simp; omega)))).trans ((f1 _ _ (by (first | omega | (simp; done) | (simp; omega)))).trans (by simp [go_sem]))
    have q2 : w2.cell? ⟨w.heap.size + 1, 2, none⟩ = some (.slice none 0 0) := (k2 _ _ (by (first | omega | (simp; done) | (simp; omega)))).trans ((k1 _ _ (by (first | omega | (simp; done) | (simp; omega)))).trans (by simp [go_sem]))
    have p2 : w2.frozen? ⟨w.heap.size + 1, 2, none⟩ = false := (f2 _ _ (by (first | omega | (simp; done) | (simp; omega)))).trans ((f1 _ _ (by (first | omega | (simp; done) | (simp; omega)))).trans (by simp [go_sem]))
    have S0 := CylinderSt.mk0 (w1 := w2) (n := (l.length : Int)) (r := (n : Int)) rfl
    have X0 := (World.cell?_alloc_lt w2 (Obj.cells #[.int .i64 (l.length : Int), .int .i64 (n : Int), .slice none 0 0] 61) ⟨w.heap.size, 0, none⟩ (by simp; omega)).trans x0
    have X1 := (World.cell?_alloc_lt w2 (Obj.cells #[.int .i64 (l.length : Int), .int .i64 (n : Int), .slice none 0 0] 61) ⟨w.heap.size, 1, none⟩ (by simp; omega)).trans x1
    have Q0 := (World.cell?_alloc_lt w2 (Obj.cells #[.int .i64 (l.length : Int), .int .i64 (n : Int), .slice none 0 0] 61) ⟨w.heap.size + 1, 0, none⟩ (by simp; omega)).trans q0
    have P0 := (World.frozen?_of_block (a := ⟨w.heap.size + 1, 0, none⟩) (Below.heap_alloc w2 (Obj.cells #[.int .i64 (l.length : Int), .int .i64 (n : Int), .slice none 0 0] 61) (w.heap.size + 1) (by omega))).trans p0
    have Q1 := (World.cell?_alloc_lt w2 (Obj.cells #[.int .i64 (l.length : Int), .int .i64 (n : Int), .slice none 0 0] 61) ⟨w.heap.size + 1, 1, none⟩ (by simp; omega)).trans q1
    have P1 := (World.frozen?_of_block (a := ⟨w.heap.size + 1, 1, none⟩) (Below.heap_alloc w2 (Obj.cells #[.int .i64 (l.length : Int), .int .i64 (n : Int), .slice none 0 0] 61) (w.heap.size + 1) (by omega))).trans p1
    have Q2 := (World.cell?_alloc_lt w2 (Obj.cells #[.int .i64 (l.length : Int), .int .i64 (n : Int), .slice none 0 0] 61) ⟨w.heap.size + 1, 2, none⟩ (by simp; omega)).trans q2
    have P2 := (World.frozen?_of_block (a := ⟨w.heap.size + 1, 2, none⟩) (Below.heap_alloc w2 (Obj.cells #[.int .i64 (l.length : Int), .int .i64 (n : Int), .slice none 0 0] 61) (w.heap.size + 1) (by omega))).trans p2
    have bel0 : Below w.heap.size w (w2.alloc (Obj.cells #[.int .i64 (l.length : Int), .int .i64 (n : Int), .slice none 0 0] 61)) := by (repeat' (first | (with_reducible exact Below.refl _ _) | (with_reducible refine bl_alloc ?_ _) | (with_reducible refine bl_drewN ?_ _) | (with_reducible refine bl_drew ?_) | (with_reducible assumption) | (with_reducible refine bl_to ?_ (by assumption)) | (with_reducible refine Below.trans ?_ (by assumption)) | (with_reducible refine Below.trans ?_ (Below.mono (by assumption) ?_)) | (with_reducible refine bl_set ?_ ?_ _) | (simp; done) | (simp; omega) | omega))
    clear x0 x1 q0 q1 q2 p0 p1 p2 k1 f1 z1 b1 k2 f2 z2 b2
    generalize (w2.alloc (Obj.cells #[.int .i64 (l.length : Int), .int .i64 (n : Int), .slice none 0 0] 61)) = w0 at *
    generalize w2.heap.size = D at *
    obtain ⟨g0, o0, rfl, hg0, rd⟩ := h1.look (by omega)
    have rd0 : ∀ j, j < l.length → w0.cell? ⟨g0, o0 + j, none⟩ = some (.int .i64 (gi l j)) := fun j hj => (bel0.cell (p := ⟨g0, o0 + j, none⟩) hg0).trans (rd j _ (cI_get hj))
    have RD := Lib.hid rd0
    have HM := Lib.hid hmul
    clear rd rd0 hmul
    have XQ := Lib.hid (And.intro X0 (And.intro X1 (And.intro Q0 (And.intro Q1 (And.intro Q2 (And.intro P0 (And.intro P1 P2)))))))
    clear X0 X1 Q0 Q1 Q2 P0 P1 P2
    go_loopw [27] (fun i wr => ∃ (a : Nat) (v : Value), a ≤ l.length ∧ i = .int .i64 a ∧ CylinderSt w0 D wr l.length n v (codN n l a)) (fun i _ => l.length - (intOf i).toNat)
    case atStart => exact ⟨0, _, Nat.zero_le _, rfl, S0⟩
    case round =>
      clear S0
      obtain ⟨a, v, ha, rfl, h⟩ := hrel
      obtain ⟨wo, rfl⟩ : ∃ wo : World, wo = wr := ⟨_, rfl⟩
      obtain ⟨X0, X1, Q0, Q1, Q2, P0, P1, P2⟩ := XQ.out
      by_cases hlt : a < l.length
      · have hlt' : (a : Int) < (l.length : Int) := by omega
        have hcl := codN_len n l a
        have hcm := HM.out a ha
        have hdo := h.dl
        clear Q0 Q1 Q2 P0 P1 P2
        have e1 := (h.bel.cell (p := ⟨g0, o0 + a, none⟩) (by simp; omega)).trans (RD.out a hlt)
        have Y0 := (h.bel.cell (p := ⟨w.heap.size, 0, none⟩) (by simp; omega)).trans X0
        clear X0 X1
        go_wp2_with (go_at_call 87; refine (members_any _ n _ (by omega)).mono ?_; rintro e w3 ⟨A3, c3, rfl, ow3, b3⟩; obtain ⟨k3, f3, z3⟩ := bcell b3)
        have h3 := h.step b3
        have in3 := Lib.hid ow3.lt
        have sz3 := b3.size
        have AP := Lib.hid (fun k hk => Or.inl (b := w3.heap.size ≤ k) (h.ow.lt k hk).2)
        have hml := memN_len (gi l a) n
        clear k3 f3 z3 b3 e1 Y0
        go_loopw [37] (fun j wr => ∃ (c : Nat) (v' : Value), c ≤ (memN (gi l a) n).length ∧ j = .int .i64 c ∧ CylinderSt w0 D wr l.length n v' (codN n l a ++ tagN ((memN (gi l a) n).take c) a) ∧ wr.ownsRow wo.heap.size 3 1 (.slice A3 (memN (gi l a) n).length c3) (memN (gi l a) n).length (cI (memN (gi l a) n)) ∧ Hid (∀ k, v'.ownBlock = some k → k < wo.heap.size ∨ w3.heap.size ≤ k) ∧ w3.heap.size ≤ wr.heap.size) (fun j _ => (memN (gi l a) n).length - (intOf j).toNat)
        case atStart => exact ⟨0, v, Nat.zero_le _, rfl, by simpa [tagN] using h3, ow3, AP, Nat.le_refl _⟩
        case round =>
          clear h3 ow3 AP
          obtain ⟨c, v', hc, rfl, h', owi, apv, szi⟩ := hrel
          by_cases hlc : c < (memN (gi l a) n).length
          · have hlc' : (c : Int) < ((memN (gi l a) n).length : Int) := by omega
            obtain ⟨g3, rfl, g3a, g3b⟩ := own_head owi (by omega)
            have e2 : wr.cell? ⟨g3, c, none⟩ = some (.int .i64 (gi (memN (gi l a) n) c)) := (owi.cellAt c (by omega)).trans (cI_get hlc)
            have dv := h'.dv
            have fv := h'.fv
            have hLl : (codN n l a ++ tagN ((memN (gi l a) n).take c) a).length ≤ 4194304 := by rw [List.length_append, tagN_len, List.length_take]; omega
            have hdl := h'.dl
            have hst : CylinderSt w0 D (wr.alloc (Obj.cells #[.int .i64 (gi (memN (gi l a) n) c), .int .i64 (a : Int)] 63)) l.length n v' (codN n l a ++ tagN ((memN (gi l a) n).take c) a) := h'.step (bl_alloc (Below.refl _ _) _)
            have HL := Lib.hid hLl
            clear hLl
            go_wp2_with (at_builtin; refine wpList_app_P _ rfl _ _ rfl (D + 1) _ _ rfl hst.ow wr.heap.size (gi (memN (gi l a) n) c) (a : Int) rfl ?_ ?_ HL.out (by simp; omega) ?_; rotate_left 2; intro v2 w2' ow2 bb gr at2; obtain ⟨A2, n2, c2, rfl⟩ := own_form3 ow2; have cD := (bb.cell (p := ⟨D, 2, none⟩) (by simp)).trans hst.dv; have fD := (bb.frozen (p := ⟨D, 2, none⟩) (by simp)).trans hst.fv)
            · have sz2 := bb.size
              simp only [World.size_alloc] at sz2
              go_roundw
              case rel => exact ⟨c + 1, _, by omega, by go_num, by rw [tag_take hlc, ← List.append_assoc]; exact hst.app (_, _) bb ow2, ownsRow_setCell_below ((owi.alloc _).kept gr (apart_own in3.out apv.out)) (by simp; omega) _, Lib.hid (apart_new apv.out at2 (by simp; omega)), by simp; omega⟩
              case measure => simp [intOf]; omega
            all_goals (simp; done)
          · obtain rfl : c = (memN (gi l a) n).length := by omega
            have hnext : CylinderSt w0 D wr l.length n v' (codN n l (a + 1)) := by rw [codN]; rw [List.take_length] at h'; exact h'
            go_wp2
            go_roundw
            case rel => exact ⟨a + 1, v', by omega, by go_num, hnext⟩
            case measure => simp [intOf]; omega
      · obtain rfl : a = l.length := by omega
        have Z0 := (h.bel.cell (p := ⟨w.heap.size + 1, 0, none⟩) (by simp; omega)).trans Q0
        have Z1 := (h.bel.cell (p := ⟨w.heap.size + 1, 1, none⟩) (by simp; omega)).trans Q1
        have Z2 := (h.bel.cell (p := ⟨w.heap.size + 1, 2, none⟩) (by simp; omega)).trans Q2
        have Y1 := (h.bel.cell (p := ⟨w.heap.size, 1, none⟩) (by simp; omega)).trans X1
        have F0 := (h.bel.frozen (p := ⟨w.heap.size + 1, 0, none⟩) (by simp; omega)).trans P0
        have F1 := (h.bel.frozen (p := ⟨w.heap.size + 1, 1, none⟩) (by simp; omega)).trans P1
        have F2 := (h.bel.frozen (p := ⟨w.heap.size + 1, 2, none⟩) (by simp; omega)).trans P2
        have T0 := h.d0
        have T1 := h.d1
        have T2 := h.dv
        have ow := h.ow
        have bl : Below w.heap.size w wo := bel0.trans (h.bel.mono (by omega))
        clear X0 X1 Q0 Q1 Q2 P0 P1 P2 h
        obtain ⟨A, c, rfl⟩ := own_form ow
        go_wp2
        exact bodyPost_ret (v := .tuple #[.agg #[.int .i64 (l.length : Int), .int .i64 (n : Int), .slice A (codN n l l.length).length c], .bool true]) (by simp [results, Try.results56, go_sem, Z0, Z1, Z2, T0, T1, T2]) rfl ⟨A, c, rfl, own_lo (ownsRow_setCell_below (ownsRow_setCell_below (ownsRow_setCell_below ow (by simp; omega) _) (by simp; omega) _) (by simp; omega) _) (by omega), bl_set (bl_set (bl_set bl (by simp) _) (by simp) _) (by simp) _⟩

set_option maxHeartbeats 6400000 in
set_option maxRecDepth 100000 in
theorem codS_any (r : Int) (v : Value) (l : List Int) (w : World) (h1 : RdI w v l) (hl : l.length ≤ 1048576) :
    Calls Try.prog 63 #[.agg #[.int .i64 r, v]] w (NewCylB (codS r l) (codR r l) (codL r l) (codB r l) w) := by
  cases ho : codB r l
  · have hS : codS r l = 0 := by simp [codS, ho]
    have hR : codR r l = 0 := by simp [codR, ho]
    have hL : codL r l = [] := by simp [codL, ho]
    rw [hS, hR, hL]
    clear hS hR hL
    have hin : inB (countF r l) 0 100 = false := by
      cases hc : discB r l
      · simp [inB, countF, hc]
      · have : 100 < countF r l := by simp [codB, hc] at ho; omega
        exact inB_no (by omega)
    go_enter Try.func63, Try.ntmps63
    go_wp2_with (first | ((go_at_call 29; refine (countS_any _ _ l _ (h1.bl (by (repeat' (first | (with_reducible exact Below.refl _ _) | (with_reducible refine bl_alloc ?_ _) | (with_reducible refine bl_drewN ?_ _) | (with_reducible refine bl_drew ?_) | (with_reducible assumption) | (with_reducible refine bl_to ?_ (by assumption)) | (with_reducible refine Below.trans ?_ (by assumption)) | (with_reducible refine Below.trans ?_ (Below.mono (by assumption) ?_)) | (with_reducible refine bl_set ?_ ?_ _) | (simp; done) | (simp; omega) | omega)))) hl).mono ?_; rintro e w2 ⟨rfl, b2⟩; obtain ⟨k2, f2, z2⟩ := bcell b2); have y2 : w.heap.size + 1 < w2.heap.size := z2 _ (by (first | omega | (simp; done) | (simp; omega)))) | (go_at_call 67; refine (l01In_any _ _ _ _).mono ?_; rintro e w' ⟨rfl, rfl⟩))
    have q0 : w2.cell? ⟨w.heap.size + 1, 0, none⟩ = some (.int .i64 0) := (k2 _ _ (by (first | omega | (simp; done) | (simp; omega)))).trans (by simp [go_sem])
    have p0 : w2.frozen? ⟨w.heap.size + 1, 0, none⟩ = false := (f2 _ _ (by (first | omega | (simp; done) | (simp; omega)))).trans (by simp [go_sem])
    have q1 : w2.cell? ⟨w.heap.size + 1, 1, none⟩ = some (.int .i64 0) := (k2 _ _ (by (first | omega | (simp; done) | (simp; omega)))).trans (by simp [go_sem])
    have p1 : w2.frozen? ⟨w.heap.size + 1, 1, none⟩ = false := (f2 _ _ (by (first | omega | (simp; done) | (simp; omega)))).trans (by simp [go_sem])
    have q2 : w2.cell? ⟨w.heap.size + 1, 2, none⟩ = some (.slice none 0 0) := (k2 _ _ (by (first | omega | (simp; done) | (simp; omega)))).trans (by simp [go_sem])
    have p2 : w2.frozen? ⟨w.heap.size + 1, 2, none⟩ = false := (f2 _ _ (by (first | omega | (simp; done) | (simp; omega)))).trans (by simp [go_sem])
    clear k2 f2
    exact bodyPost_ret (v := .tuple #[.agg #[.int .i64 0, .int .i64 0, .slice none 0 0], .bool false]) (by simp [results, Try.results63, go_sem, q0, q1, q2, p0, p1, p2]) rfl ⟨none, 0, rfl, World.ownsRow_nil _ _ _ _, by (repeat' (first | (with_reducible exact Below.refl _ _) | (with_reducible refine bl_alloc ?_ _) | (with_reducible refine bl_drewN ?_ _) | (with_reducible refine bl_drew ?_) | (with_reducible assumption) | (with_reducible refine bl_to ?_ (by assumption)) | (with_reducible refine Below.trans ?_ (by assumption)) | (with_reducible refine Below.trans ?_ (Below.mono (by assumption) ?_)) | (with_reducible refine bl_set ?_ ?_ _) | (simp; done) | (simp; omega) | omega))⟩
  · have hS : codS r l = l.length := by simp [codS, ho]
    have hR : codR r l = r := by simp [codR, ho]
    have hL : codL r l = codN r.toNat l l.length := by simp [codL, ho]
    rw [hS, hR, hL]
    clear hS hR hL
    obtain ⟨hc, ht⟩ : discB r l = true ∧ countF r l ≤ 100 := by simpa [codB] using ho
    obtain ⟨⟨r1, r2⟩, ⟨l1, l2⟩, _⟩ := discB_iff hc
    obtain ⟨n, rfl⟩ := Int.eq_ofNat_of_zero_le (show 0 ≤ r by omega)
    rw [Int.toNat_natCast]
    have htn : ¬ 100 < countF (n : Int) l := by omega
    have hin : inB (countF (n : Int) l) 0 100 = true := inB_yes (by simp only [countF, hc, if_true]; exact (popS_bd _ _).1) (by omega)
    have hmul : ∀ a : Nat, a ≤ l.length → a * n ≤ 96 * 16 := fun a h => Nat.mul_le_mul (by omega) (by omega)
    obtain ⟨A0, c0, rfl, hc0, hm0⟩ := h1.form
    go_enter Try.func63, Try.ntmps63
    go_wp2_with (first | ((go_at_call 29; refine (countS_any _ _ l _ (h1.bl (by (repeat' (first | (with_reducible exact Below.refl _ _) | (with_reducible refine bl_alloc ?_ _) | (with_reducible refine bl_drewN ?_ _) | (with_reducible refine bl_drew ?_) | (with_reducible assumption) | (with_reducible refine bl_to ?_ (by assumption)) | (with_reducible refine Below.trans ?_ (by assumption)) | (with_reducible refine Below.trans ?_ (Below.mono (by assumption) ?_)) | (with_reducible refine bl_set ?_ ?_ _) | (simp; done) | (simp; omega) | omega)))) hl).mono ?_; rintro e w2 ⟨rfl, b2⟩; obtain ⟨k2, f2, z2⟩ := bcell b2); have y2 : w.heap.size + 1 < w2.heap.size := z2 _ (by (first | omega | (simp; done) | (simp; omega)))) | (go_at_call 67; refine (l01In_any _ _ _ _).mono ?_; rintro e w' ⟨rfl, rfl⟩))
    have x0 : w2.cell? ⟨w.heap.size, 0, none⟩ = some (.int .i64 (n : Int)) := (k2 _ _ (by (first | omega | (simp; done) | (simp; omega)))).trans (by simp [go_sem])
    have x1 : w2.cell? ⟨w.heap.size, 1, none⟩ = some (.slice A0 l.length c0) := (k2 _ _ (by (first | omega | (simp; done) | (simp; omega)))).trans (by simp [go_sem])
    have q0 : w2.cell? ⟨w.heap.size + 1, 0, none⟩ = some (.int .i64 0) := (k2 _ _ (by (first | omega | (simp; done) | (simp; omega)))).trans (by simp [go_sem])
    have p0 : w2.frozen? ⟨w.heap.size + 1, 0, none⟩ = false := (f2 _ _ (by (first | omega | (simp; done) | (simp; omega)))).trans (by simp [go_sem])
    have q1 : w2.cell? ⟨w.heap.size + 1, 1, none⟩ = some (.int .i64 0) := (k2 _ _ (by (first | omega | (simp; done) | (simp; omega)))).trans (by simp [go_sem])
    have p1 : w2.frozen? ⟨w.heap.size + 1, 1, none⟩ = false := (f2 _ _ (by (first | omega | (simp; done) | (simp; omega)))).trans (by simp [go_sem])
    have q2 : w2.cell? ⟨w.heap.size + 1, 2, none⟩ = some (.slice none 0 0) := (k2 _ _ (by (first | omega | (simp; done) | (simp; omega)))).trans (by simp [go_sem])
    have p2 : w2.frozen? ⟨w.heap.size + 1, 2, none⟩ = false := (f2 _ _ (by (first | omega | (simp; done) | (simp; omega)))).trans (by simp [go_sem])
    have S0 := CylinderSt.mk0 (w1 := w2) (n := (l.length : Int)) (r := (n : Int)) rfl
    have X0 := (World.cell?_alloc_lt w2 (Obj.cells #[.int .i64 (l.length : Int), .int .i64 (n : Int), .slice none 0 0] 61) ⟨w.heap.size, 0, none⟩ (by simp; omega)).trans x0
    have X1 := (World.cell?_alloc_lt w2 (Obj.cells #[.int .i64 (l.length : Int), .int .i64 (n : Int), .slice none 0 0] 61) ⟨w.heap.size, 1, none⟩ (by simp; omega)).trans x1
    have Q0 := (World.cell?_alloc_lt w2 (Obj.cells #[.int .i64 (l.length : Int), .int .i64 (n : Int), .slice none 0 0] 61) ⟨w.heap.size + 1, 0, none⟩ (by simp; omega)).trans q0
    have P0 := (World.frozen?_of_block (a := ⟨w.heap.size + 1, 0, none⟩) (Below.heap_alloc w2 (Obj.cells #[.int .i64 (l.length : Int), .int .i64 (n : Int), .slice none 0 0] 61) (w.heap.size + 1) (by omega))).trans p0
    have Q1 := (World.cell?_alloc_lt w2 (Obj.cells #[.int .i64 (l.length : Int), .int .i64 (n : Int), .slice none 0 0] 61) ⟨w.heap.size + 1, 1, none⟩ (by simp; omega)).trans q1
    have P1 := (World.frozen?_of_block (a := ⟨w.heap.size + 1, 1, none⟩) (Below.heap_alloc w2 (Obj.cells #[.int .i64 (l.length : Int), .int .i64 (n : Int), .slice none 0 0] 61) (w.heap.size + 1) (by omega))).trans p1
    have Q2 := (World.cell?_alloc_lt w2 (Obj.cells #[.int .i64 (l.length : Int), .int .i64 (n : Int), .slice none 0 0] 61) ⟨w.heap.size + 1, 2, none⟩ (by simp; omega)).trans q2
    have P2 := (World.frozen?_of_block (a := ⟨w.heap.size + 1, 2, none⟩) (Below.heap_alloc w2 (Obj.cells #[.int .i64 (l.length : Int), .int .i64 (n : Int), .slice none 0 0] 61) (w.heap.size + 1) (by omega))).trans p2
    have bel0 : Below w.heap.size w (w2.alloc (Obj.cells #[.int .i64 (l.length : Int), .int .i64 (n : Int), .slice none 0 0] 61)) := by (repeat' (first | (with_reducible exact Below.refl _ _) | (with_reducible refine bl_alloc ?_ _) | (with_reducible refine bl_drewN ?_ _) | (with_reducible refine bl_drew ?_) | (with_reducible assumption) | (with_reducible refine bl_to ?_ (by assumption)) | (with_reducible refine Below.trans ?_ (by assumption)) | (with_reducible refine Below.trans ?_ (Below.mono (by assumption) ?_)) | (with_reducible refine bl_set ?_ ?_ _) | (simp; done) | (simp; omega) | omega))
    clear x0 x1 q0 q1 q2 p0 p1 p2  k2 f2 z2 b2
    generalize (w2.alloc (Obj.cells #[.int .i64 (l.length : Int), .int .i64 (n : Int), .slice none 0 0] 61)) = w0 at *
    generalize w2.heap.size = D at *
    obtain ⟨g0, o0, rfl, hg0, rd⟩ := h1.look (by omega)
    have rd0 : ∀ j, j < l.length → w0.cell? ⟨g0, o0 + j, none⟩ = some (.int .i64 (gi l j)) := fun j hj => (bel0.cell (p := ⟨g0, o0 + j, none⟩) hg0).trans (rd j _ (cI_get hj))
    have RD := Lib.hid rd0
    have HM := Lib.hid hmul
    clear rd rd0 hmul
    have XQ := Lib.hid (And.intro X0 (And.intro X1 (And.intro Q0 (And.intro Q1 (And.intro Q2 (And.intro P0 (And.intro P1 P2)))))))
    clear X0 X1 Q0 Q1 Q2 P0 P1 P2
    go_wp2
    go_loopw [5] (fun i wr => ∃ (a : Nat) (v : Value), a ≤ l.length ∧ i = .int .i64 a ∧ CylinderSt w0 D wr l.length n v (codN n l a)) (fun i _ => l.length - (intOf i).toNat)
    case atStart => exact ⟨0, _, Nat.zero_le _, rfl, S0⟩
    case round =>
      clear S0
      obtain ⟨a, v, ha, rfl, h⟩ := hrel
      obtain ⟨wo, rfl⟩ : ∃ wo : World, wo = wr := ⟨_, rfl⟩
      obtain ⟨X0, X1, Q0, Q1, Q2, P0, P1, P2⟩ := XQ.out
      by_cases hlt : a < l.length
      · have hlt' : (a : Int) < (l.length : Int) := by omega
        have hcl := codN_len n l a
        have hcm := HM.out a ha
        have hdo := h.dl
        clear Q0 Q1 Q2 P0 P1 P2
        have Y1 := (h.bel.cell (p := ⟨w.heap.size, 1, none⟩) (by simp; omega)).trans X1
        have H0 : CylinderSt w0 D wo l.length n v (codN n l a ++ tagN (memN (gi l a) 0) a) := by simpa [tagN, memN] using h
        go_wp2
        go_loopw [6] (fun j wr => ∃ (c : Nat) (v' : Value), c ≤ n ∧ j = .int .i64 c ∧ CylinderSt w0 D wr l.length n v' (codN n l a ++ tagN (memN (gi l a) c) a)) (fun j _ => n - (intOf j).toNat)
        case atStart => exact ⟨0, v, Nat.zero_le _, rfl, H0⟩
        case round =>
          clear H0 Y1 h
          obtain ⟨c, v', hc, rfl, h'⟩ := hrel
          have hml := memN_len (gi l a) c
          have Y0 := (h'.bel.cell (p := ⟨w.heap.size, 0, none⟩) (by simp; omega)).trans X0
          have Y1 := (h'.bel.cell (p := ⟨w.heap.size, 1, none⟩) (by simp; omega)).trans X1
          have e1 := (h'.bel.cell (p := ⟨g0, o0 + a, none⟩) (by simp; omega)).trans (RD.out a hlt)
          by_cases hlc : c < n
          · have hlc' : (c : Int) < (n : Int) := by omega
            by_cases hb : bitI (gi l a) c = 1
            · have hbb : (bits .and .i64 (gi l a / 2 ^ c) 1 == 1) = true := by have hb' := hb; unfold bitI at hb'; rw [hb']; rfl
              have dv := h'.dv
              have fv := h'.fv
              have hLl : (codN n l a ++ tagN (memN (gi l a) c) a).length ≤ 4194304 := by rw [List.length_append, tagN_len]; omega
              have hdl := h'.dl
              have hst : CylinderSt w0 D (wr.alloc (Obj.cells #[.int .i64 (c : Int), .int .i64 (a : Int)] 63)) l.length n v' (codN n l a ++ tagN (memN (gi l a) c) a) := h'.step (bl_alloc (Below.refl _ _) _)
              have HL := Lib.hid hLl
              have HB := Lib.hid hb
              clear hLl hb
              go_wp2_with (at_builtin; refine wpList_app_P _ rfl _ _ rfl (D + 1) _ _ rfl hst.ow wr.heap.size (c : Int) (a : Int) rfl ?_ ?_ HL.out (by simp; omega) ?_; rotate_left 2; intro v2 w2' ow2 bb gr at2; obtain ⟨A2, n2, c2, rfl⟩ := own_form3 ow2; have cD := (bb.cell (p := ⟨D, 2, none⟩) (by simp)).trans hst.dv; have fD := (bb.frozen (p := ⟨D, 2, none⟩) (by simp)).trans hst.fv)
              · go_roundw
                case rel => exact ⟨c + 1, _, by omega, by go_num, by rw [memN_yes HB.out, tagN_snoc, ← List.append_assoc]; exact hst.app (_, _) bb ow2⟩
                case measure => simp [intOf]; omega
              all_goals (simp; done)
            · have hbb : (bits .and .i64 (gi l a / 2 ^ c) 1 == 1) = false := by have hb' := hb; unfold bitI at hb'; simpa using hb'
              have HB := Lib.hid hb
              clear hb
              go_wp2
              go_roundw
              case rel => exact ⟨c + 1, v', by omega, by go_num, by rw [memN_no HB.out]; exact h'⟩
              case measure => simp [intOf]; omega
          · have hlc' : ¬ (c : Int) < (n : Int) := by omega
            obtain rfl : c = n := by omega
            go_wp2
            go_roundw
            case rel => exact ⟨a + 1, v', by omega, by go_num, by rw [codN]; exact h'⟩
            case measure => simp [intOf]; omega
      · have hlt' : ¬ (a : Int) < (l.length : Int) := by omega
        obtain rfl : a = l.length := by omega
        have Z0 := (h.bel.cell (p := ⟨w.heap.size + 1, 0, none⟩) (by simp; omega)).trans Q0
        have Z1 := (h.bel.cell (p := ⟨w.heap.size + 1, 1, none⟩) (by simp; omega)).trans Q1
        have Z2 := (h.bel.cell (p := ⟨w.heap.size + 1, 2, none⟩) (by simp; omega)).trans Q2
        have Y1 := (h.bel.cell (p := ⟨w.heap.size, 1, none⟩) (by simp; omega)).trans X1
        have F0 := (h.bel.frozen (p := ⟨w.heap.size + 1, 0, none⟩) (by simp; omega)).trans P0
        have F1 := (h.bel.frozen (p := ⟨w.heap.size + 1, 1, none⟩) (by simp; omega)).trans P1
        have F2 := (h.bel.frozen (p := ⟨w.heap.size + 1, 2, none⟩) (by simp; omega)).trans P2
        have T0 := h.d0
        have T1 := h.d1
        have T2 := h.dv
        have ow := h.ow
        have bl : Below w.heap.size w wo := bel0.trans (h.bel.mono (by omega))
        clear X0 X1 Q0 Q1 Q2 P0 P1 P2 h
        obtain ⟨A, c, rfl⟩ := own_form ow
        go_wp2
        exact bodyPost_ret (v := .tuple #[.agg #[.int .i64 (l.length : Int), .int .i64 (n : Int), .slice A (codN n l l.length).length c], .bool true]) (by simp [results, Try.results63, go_sem, Z0, Z1, Z2, T0, T1, T2]) rfl ⟨A, c, rfl, own_lo (ownsRow_setCell_below (ownsRow_setCell_below (ownsRow_setCell_below ow (by simp; omega) _) (by simp; omega) _) (by simp; omega) _) (by omega), bl_set (bl_set (bl_set bl (by simp) _) (by simp) _) (by simp) _⟩
end Go.Proofs.Ytoijjjaodfincaa
