/- The drawn jobs; lengths up to 2^20. -/
import Derived.Test.YtloienidakomdaaDraw2
import Derived.Test.YtloienidakomdaaGain
namespace Go.Proofs.Ytloienidakomdaa
open Go.RowKit

def drB (x : Int × Int × Int) : Prop := (1 ≤ x.1 ∧ x.1 ≤ 9) ∧ (0 ≤ x.2.1 ∧ x.2.1 ≤ 39) ∧ 0 ≤ x.2.2 ∧ x.2.2 ≤ 29
/-- some drawn jobs, in a row of the call's own -/
def NewJobs (B : Nat) (w0 : World) (en : Ending) (w' : World) : Prop :=
  ∃ (p : List (Int × Int × Int)) (A : Option Addr) (c : Nat), en = .returned (.slice A p.length c) ∧ p.length ≤ 6 ∧ (∀ x ∈ p, drB x) ∧ w'.ownsRow B 44 3 (.slice A p.length c) p.length (cJ p) ∧ Below w0.heap.size w0 w'
theorem drB_jobs {p : List (Int × Int × Int)} (h : ∀ x ∈ p, drB x) (hl : p.length ≤ 6) : jobsB p = true := by
  simp only [jobsB, Bool.and_eq_true, decide_eq_true_eq, List.all_eq_true]
  refine ⟨by omega, fun x hx => ?_⟩
  obtain ⟨⟨a, b⟩, ⟨c, d⟩, e, f⟩ := h x hx
  simp only [jobB, Bool.and_eq_true, inB_iff]
  omega
set_option maxHeartbeats 3200000 in
set_option maxRecDepth 100000 in
theorem l32List_any (w0 : World) (cb : Nat) (v : Value) (L : List Int) (w : World) (h0 : RdB w0 v L) (hl : L.length ≤ 1048576) (hc : Cur w0 w cb v L) :
    Calls Try.prog 45 #[.pointer (some ⟨cb, 0, none⟩)] w (NewJobs w.heap.size w0) := by
  have hcl := hc.lt
  have own1 : (w.alloc (Obj.cells #[] 44)).ownsRow w.heap.size 44 3 (.slice (some ⟨w.heap.size, 0, none⟩) 0 0) ([] : List (Int × Int × Int)).length (cJ []) := own_new0 (Nat.le_refl _) rfl
  have hc1 : Cur w0 (w.alloc (Obj.cells #[] 44)) cb v L := hc.blk (bl_alloc (Below.refl _ _) _) hcl
  go_enter Try.func45, Try.ntmps45
  go_wp2_with (go_at_call 52; refine (below_any _ _ _ _ _ _ h0 hl hc1).mono ?_; rintro e w1 ⟨n, ⟨n0, n1⟩, rfl, hc2, g1⟩)
  obtain ⟨N, rfl⟩ := Int.eq_ofNat_of_zero_le n0
  have hN : N ≤ 6 := by have := n1 (by omega); omega
  have own2 := own_draw own1 g1 hcl
  have s1 := g1.size
  simp only [World.size_alloc] at s1
  clear hc hc1 own1 g1 n0 n1
  go_loopw [3, 5] (fun a i wr => ∃ (k : Nat) (p : List (Int × Int × Int)), p.length = k ∧ k ≤ N ∧ i = .int .i64 k ∧ (∀ x ∈ p, drB x) ∧ wr.ownsRow w.heap.size 44 3 a p.length (cJ p) ∧ Cur w0 wr cb v L ∧ w.heap.size ≤ wr.heap.size) (fun _ i _ => N - (intOf i).toNat)
  case atStart => exact ⟨0, [], rfl, Nat.zero_le _, rfl, fun x h => by simp at h, own2, hc2, by omega⟩
  case round =>
    clear own2 hc2
    obtain ⟨k, p, hk, hkN, rfl, hp, ow, hc, szr⟩ := hrel
    obtain ⟨A, c, rfl⟩ := own_form ow
    have HK := Lib.hid hk
    have HP := Lib.hid hp
    have pl : p.length ≤ 6 := by omega
    clear hk hp
    by_cases hlt : k < N
    · have hlt' : (k : Int) < (N : Int) := by omega
      go_wp2_with fail
      refine (below_any _ _ _ _ _ _ h0 hl hc).mono ?_
      rintro e w2 ⟨x1, ⟨x1l, x1u⟩, rfl, hc3, g3⟩
      have x1u := x1u (by omega)
      have ow3 := own_draw ow g3 hcl
      have s3 := g3.size
      clear ow hc g3
      go_wp2_with fail
      refine (below_any _ _ _ _ _ _ h0 hl hc3).mono ?_
      rintro e w3 ⟨x2, ⟨x2l, x2u⟩, rfl, hc4, g4⟩
      have x2u := x2u (by omega)
      have ow4 := own_draw ow3 g4 hcl
      have s4 := g4.size
      clear ow3 hc3 g4
      go_wp2_with fail
      refine (below_any _ _ _ _ _ _ h0 hl hc4).mono ?_
      rintro e w4 ⟨x3, ⟨x3l, x3u⟩, rfl, hc5, g5⟩
      have x3u := x3u (by omega)
      have ow5 := own_draw ow4 g5 hcl
      have s5 := g5.size
      clear ow4 hc4 g5
      have dr : Hid (drB (1 + x1, x2, x3)) := by show drB _; unfold drB; simp only; omega
      go_wp2_with (at_builtin; refine wpList_app_J _ rfl _ _ rfl w.heap.size _ p rfl (ow5.alloc _) _ (1 + x1, x2, x3) rfl ?_ ?_ ?_ (by omega) (by (first | omega | (simp; done) | (simp; omega))) ?_; rotate_left 3; intro v2 w5 ow6 bel6 gr6 at6)
      · have hc6 : Cur w0 w5 cb v L := (hc5.blk (bl_alloc (Below.refl _ _) _) hc5.lt).blk bel6 hcl
        have s6 : w.heap.size ≤ w5.heap.size := by have := bel6.size; simp only [World.size_alloc] at this; omega
        go_roundw
        case rel => exact ⟨k + 1, p ++ [(1 + x1, x2, x3)], by simp [HK.out], by omega, by go_num, fun x hx => by rcases List.mem_append.1 hx with h | h; (· exact HP.out x h); (· rw [List.mem_singleton] at h; rw [h]; exact dr.out), ow6, hc6, s6⟩
        case measure => simp [intOf]; omega
      all_goals (simp [go_sem]; done)
    · have hlt' : ¬ (k : Int) < (N : Int) := by omega
      go_wp2
      go_ret
      exact ⟨p, A, c, rfl, pl, HP.out, ow, hc.bel⟩
set_option maxHeartbeats 800000 in
theorem drawJobs_any (v : Value) (L : List Int) (w : World) (h0 : RdB w v L) (hl : L.length ≤ 1048576) : Calls Try.prog 28 #[v] w (NewJobs w.heap.size w) := by
  go_enter Try.func28, Try.ntmps28
  go_wp2_with (first | (go_at_call 46; refine (new_any _ _ _ h0 hl).mono ?_; rintro e w1 ⟨rfl, hc1⟩) | (go_at_call 45; refine (l32List_any _ _ _ _ _ h0 hl hc1).mono ?_; rintro e w2 ⟨p, A, c, rfl, pl, hp, ow, b2⟩))
  go_ret
  exact ⟨p, A, c, rfl, pl, hp, own_lo ow hc1.bel.size, b2⟩
end Go.Proofs.Ytloienidakomdaa
