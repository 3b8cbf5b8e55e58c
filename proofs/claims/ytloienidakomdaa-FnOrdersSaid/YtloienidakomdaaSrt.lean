/- slices.Sort at a row of ints of the call's own, at most eight of them. -/
import Derived.Test.YtloienidakomdaaLate0
import Derived.Test.YtloienidakomdaaShelf
import Derived.BigRegion
namespace Go.Proofs.Ytloienidakomdaa
open Go.RowKit

theorem gr_dN {a w : World} {r : Option Nat} (h : a.grownBy w r) (n : Nat) : a.grownBy (w.drewN n) r := ⟨h.os, h.tape, h.output, h.size, h.block⟩
theorem gr_d1 {a w : World} {r : Option Nat} (h : a.grownBy w r) : a.grownBy w.drew r := ⟨h.os, h.tape, h.output, h.size, h.block⟩
theorem gr_set1 {a w : World} {cb o : Nat} {u : Value} (h : a.grownBy w (some cb)) : a.grownBy (w.setCell ⟨cb, o, none⟩ u) (some cb) :=
  ⟨h.os, h.tape, h.output, by simpa using h.size, fun k hk hn => (Below.heap_setCell w ⟨cb, o, none⟩ u k (fun e => hn (by rw [e]))).trans (h.block k hk hn)⟩
theorem own_headD {w : World} {lo : Nat} {e : TypeId} {n : Nat} {A : Option Addr} {c : Nat} {xs : List Value} (h : w.ownsRow lo e 1 (.slice A n c) n xs) (hn : 0 < n) : ∃ b, A = some ⟨b, 0, none⟩ ∧ lo ≤ b ∧ b < w.heap.size := by
  rcases h.2 with ⟨hv, h0⟩ | ⟨b, cap, cur, hv, hlo, hg, _⟩
  · omega
  · obtain ⟨rfl, _, _⟩ : A = some ⟨b, 0, none⟩ ∧ n = n ∧ c = cap := by simpa using hv
    exact ⟨b, rfl, hlo, (Array.getElem?_eq_some_iff.1 hg).1⟩
def outG (M : List Int) (i : Nat) : List Int := srtG M i ++ M.drop i
theorem outG_in {M : List Int} {i : Nat} (h : i < M.length) : outG M i = mv (srtG M i) (gi M i) i ++ M.drop (i + 1) := by
  unfold outG
  have := mv_end (L := srtG M i) (x := gi M i)
  rw [srtG_len] at this
  rw [this, gi_eq h, ← List.getElem_cons_drop h]
  simp
theorem outG_next {M : List Int} {i j : Nat} (hj : j ≤ i) (h1 : ∀ a, j ≤ a → a < i → gi M i < gi (srtG M i) a) (h2 : j = 0 ∨ ¬ gi M i < gi (srtG M i) (j - 1)) :
    mv (srtG M i) (gi M i) j ++ M.drop (i + 1) = outG M (i + 1) := by
  have := posD_eq (d := id) (L := srtG M i) (x := gi M i) (j := j) i hj h1 h2
  rw [outG, srtG, insD, srtG_len, this]
theorem outG_start {M : List Int} (h : 1 ≤ M.length) : outG M 1 = M := by
  unfold outG
  cases M with
  | nil => simp at h
  | cons x M => simp [srtG, insD, posD, mv, gi]
theorem outG_end (M : List Int) : outG M M.length = srtG M M.length := by simp [outG]
theorem outG_len {M : List Int} {i : Nat} (h : i ≤ M.length) : (outG M i).length = M.length := by
  rw [outG, List.length_append, srtG_len, List.length_drop]; omega
theorem mvG_len {M : List Int} {i j : Nat} (h : i < M.length) : (mv (srtG M i) (gi M i) j ++ M.drop (i + 1)).length = M.length := by
  rw [List.length_append, mv_len, srtG_len, List.length_drop]; omega

theorem less_any (x y : Int) (w : World) : Calls Try.prog 61 #[.int .i64 x, .int .i64 y] w fun e w' => e = .returned (.bool (decide (x < y))) ∧ w = w' := by
  have sx : (x != x) = false := by simp
  have sy : (y != y) = false := by simp
  go_enter Try.func61, Try.ntmps61
  go_wp2
  go_ret
  exact ⟨rfl, rfl⟩

set_option maxHeartbeats 3200000 in
set_option maxRecDepth 100000 in
theorem insO_any (lo : Nat) (M : List Int) (A : Option Addr) (c : Nat) (w : World) (h8 : M.length ≤ 8) (hown : w.ownsRow lo 3 1 (.slice A M.length c) M.length (cI M)) :
    Calls Try.prog 55 #[.slice A M.length c, .int .i64 0, .int .i64 (M.length : Int)] w fun e w' =>
      e = .returned (.tuple #[]) ∧ w'.ownsRow lo 3 1 (.slice A M.length c) M.length (cI (srtG M M.length)) ∧ w.grownBy w' (Value.slice A M.length c).ownBlock := by
  have st0 : (1 ≤ M.length → M = outG M 1) ∧ (M.length < 1 → M = srtG M M.length) :=
    ⟨fun h => (outG_start h).symm, fun h => by rw [show M.length = 0 by omega, List.eq_nil_of_length_eq_zero (show M.length = 0 by omega)]; rfl⟩
  go_enter Try.func55, Try.ntmps55
  go_wp2
  go_loopw [6] (fun vi wr => ∃ (i : Nat) (L : List Int), vi = .int .i64 i ∧ 1 ≤ i ∧ i ≤ M.length + 1 ∧ (i ≤ M.length → L = outG M i) ∧ (M.length < i → L = srtG M M.length) ∧ L.length = M.length ∧ wr.ownsRow lo 3 1 (.slice A M.length c) M.length (cI L) ∧ w.grownBy wr (Value.slice A M.length c).ownBlock) (fun vi _ => M.length + 1 - (intOf vi).toNat)
  case atStart => exact ⟨1, M, rfl, by omega, by omega, st0.1, st0.2, rfl, hown, World.grownBy.refl _ _⟩
  case round =>
    clear st0 hown
    obtain ⟨i, L, rfl, hi1, hi2, hL1, hL2, hLl, ow, gr⟩ := hrel
    by_cases hlt : i < M.length
    · have hlt' : (i : Int) < (M.length : Int) := by omega
      obtain ⟨b, rfl, hbl, hbs⟩ := own_headD ow (by omega)
      have hLe := hL1 (by omega)
      rw [hLe, outG_in hlt] at ow
      have gr' : w.grownBy wr (some b) := by simpa [Value.ownBlock] using gr
      clear hL1 hL2 hLl hLe gr
      go_wp2
      go_loopw [7] (fun vj wr => ∃ j : Nat, vj = .int .i64 j ∧ j ≤ i ∧ (∀ a, j ≤ a → a < i → gi M i < gi (srtG M i) a) ∧ wr.ownsRow lo 3 1 (.slice (some ⟨b, 0, none⟩) M.length c) M.length (cI (mv (srtG M i) (gi M i) j ++ M.drop (i + 1))) ∧ w.grownBy wr (some b)) (fun vj _ => (intOf vj).toNat)
      case atStart => exact ⟨i, rfl, Nat.le_refl _, fun a h1 h2 => by omega, ow, gr'⟩
      case round =>
        clear ow gr'
        obtain ⟨j, rfl, hj, hall, ow, gr⟩ := hrel
        have HALL := Lib.hid hall
        clear hall
        have hdl := srtG_len M i
        have ml := mvG_len (M := M) (j := j) hlt
        rcases j with _ | jp
        · have HO := Lib.hid (outG_next (M := M) (i := i) hj HALL.out (.inl rfl))
          rw [HO.out] at ow
          have OL := Lib.hid (outG_len (M := M) (show i + 1 ≤ M.length by omega))
          clear hdl ml
          have g1 : decide ((0 : Int) < ((0 : Nat) : Int)) = false := by decide
          have g2 : ¬ (0 : Int) < ((0 : Nat) : Int) := by omega
          go_wp2_with fail
          go_quiet (fail)
          go_wp2
          go_roundw
          case rel => exact ⟨i + 1, _, by go_num, by omega, by omega, fun _ => rfl, fun h => by omega, OL.out, by first | exact ow | exact own_drewN ow _, by first | exact gr | exact gr_dN gr _ | exact gr_d1 gr⟩
          case measure => simp [intOf]; omega
        · have jl : jp < i := by omega
          have cj : wr.cell? ⟨b, jp + 1, none⟩ = some (.int .i64 (gi M i)) := (ow.cellAt (jp + 1) (by omega)).trans ((cI_get (by rw [ml]; omega)).trans (by rw [mv_at (by omega)]))
          have cp : wr.cell? ⟨b, jp, none⟩ = some (.int .i64 (gi (srtG M i) jp)) := (ow.cellAt jp (by omega)).trans ((cI_get (by rw [ml]; omega)).trans (by rw [mv_pred (by omega)]))
          have fj := ow.frozenAt (jp + 1)
          have fp := ow.frozenAt jp
          have p1 : IntKind.i64.wrap (jp : Int) = (jp : Int) := IntWalk.i64_in _ (by omega)
          have p2 : (jp : Int) + 1 < (M.length : Int) := by omega
          have p3 : (jp : Int) < (M.length : Int) := by omega
          have p4 : (0 : Int) < (jp : Int) + 1 := by omega
          have p5 : ((jp : Int) + 1).toNat = jp + 1 := by omega
          have p6 : (0 : Int) ≤ (jp : Int) + 1 := by omega
          have HM := Lib.hid (mv_step (L := srtG M i) (T := M.drop (i + 1)) (x := gi M i) (j := jp) (by rw [srtG_len]; exact jl))
          have HN := fun hs : ¬ gi M i < gi (srtG M i) jp => Lib.hid (outG_next (M := M) (i := i) hj HALL.out (.inr (by rw [Nat.add_sub_cancel]; exact hs)))
          clear hdl ml
          obtain ⟨x, hx⟩ : ∃ x, gi M i = x := ⟨_, rfl⟩
          obtain ⟨y, hy⟩ : ∃ y, gi (srtG M i) jp = y := ⟨_, rfl⟩
          rw [hx] at cj
          rw [hy] at cp
          have HX := Lib.hid hx
          have HY := Lib.hid hy
          clear hx hy
          by_cases hs : x < y
          · have hlv : decide (x < y) = true := decide_eq_true hs
            go_wp2_with fail
            go_quiet ((go_at_call 61; exact Calls.quiet_of_same ((less_any _ _ _).mono (fun _ _ h => ⟨h.1, h.2.symm⟩))))
            go_wp2_with fail
            have ow2 := own_drewN ow nq
            have cj2 : (wr.drewN nq).cell? ⟨b, jp + 1, none⟩ = some (.int .i64 x) := cj
            have cp2 : (wr.drewN nq).cell? ⟨b, jp, none⟩ = some (.int .i64 y) := cp
            have fj2 : (wr.drewN nq).frozen? ⟨b, jp + 1, none⟩ = false := fj
            have fp2 : (wr.drewN nq).frozen? ⟨b, jp, none⟩ = false := fp
            have gr2 := gr_dN gr nq
            clear ow cj cp fj fp gr HN
            generalize wr.drewN nq = wq at *
            have ow3 := ((ow2.stored (jp + 1) (.int .i64 y)).1.stored jp (.int .i64 x)).1.drew
            have hm := HM.out
            rw [HX.out, HY.out] at hm
            rw [HX.out, cI_set, cI_set, hm] at ow3
            have gr3 : w.grownBy ((wq.setCell ⟨b, jp + 1, none⟩ (.int .i64 y)).setCell ⟨b, jp, none⟩ (.int .i64 x)).drew (some b) := gr_d1 (gr_set1 (gr_set1 gr2))
            have HALL2 := Lib.hid (show ∀ a, jp ≤ a → a < i → gi M i < gi (srtG M i) a from fun a h1 h2 => by
              by_cases e : a = jp
              · rw [e, HX.out, HY.out]; exact hs
              · exact HALL.out a (by omega) h2)
            clear gr2 ow2 hs hm
            go_region
            go_wp2
            go_roundw
            case rel => exact ⟨jp, by go_num, by omega, HALL2.out, by rw [HX.out]; exact ow3, gr3⟩
            case measure => first | (simp [intOf]; done) | (simp [intOf]; omega)
          · have hlv : decide (x < y) = false := decide_eq_false hs
            have HO := HN (by rw [HX.out, HY.out]; exact hs)
            rw [HO.out] at ow
            have OL := Lib.hid (outG_len (M := M) (show i + 1 ≤ M.length by omega))
            clear hs HN
            go_wp2_with fail
            go_quiet ((go_at_call 61; exact Calls.quiet_of_same ((less_any _ _ _).mono (fun _ _ h => ⟨h.1, h.2.symm⟩))))
            go_wp2
            go_roundw
            case rel => exact ⟨i + 1, _, by go_num, by omega, by omega, fun _ => rfl, fun h => by omega, OL.out, by first | exact ow | exact own_drewN ow _, by first | exact gr | exact gr_dN gr _ | exact gr_d1 gr⟩
            case measure => simp [intOf]; omega
    · have hL : L = srtG M M.length := by
        by_cases e : i = M.length
        · subst e
          rw [hL1 (by omega), outG_end]
        · exact hL2 (by omega)
      rw [hL] at ow
      have hlt' : ¬ (i : Int) < (M.length : Int) := by omega
      clear hL hL1 hL2 hLl
      go_wp2
      go_end0
      exact ⟨rfl, ow, gr⟩

set_option maxHeartbeats 1600000 in
theorem pdq_any (lo : Nat) (M : List Int) (A : Option Addr) (c : Nat) (q : Int) (w : World) (h8 : M.length ≤ 8) (hown : w.ownsRow lo 3 1 (.slice A M.length c) M.length (cI M)) :
    Calls Try.prog 50 #[.slice A M.length c, .int .i64 0, .int .i64 (M.length : Int), .int .i64 q] w fun e w' =>
      e = .returned (.tuple #[]) ∧ w'.ownsRow lo 3 1 (.slice A M.length c) M.length (cI (srtG M M.length)) ∧ w.grownBy w' (Value.slice A M.length c).ownBlock := by
  have HC := Lib.hid (insO_any lo M A c w h8 hown)
  have n1 : (M.length : Int) ≤ 12 := by omega
  clear hown
  go_enter Try.func50, Try.ntmps50
  go_wp2
  go_loopw [1, 2, 3, 8, 9] (fun a b x y z wr => a = .int .i64 0 ∧ b = .int .i64 (M.length : Int) ∧ x = .int .i64 q ∧ y = .bool true ∧ z = .bool true ∧ wr = w) (fun _ _ _ _ _ _ => 0)
  case atStart => exact ⟨rfl, rfl, rfl, rfl, rfl, rfl⟩
  case round =>
    obtain ⟨rfl, rfl, rfl, rfl, rfl, rfl⟩ := hrel
    go_wp2_with (go_at_call 55; refine HC.out.mono ?_; rintro e w1 ⟨rfl, ow1, gr1⟩)
    exact bodyPost_ret (results_none rfl _ _ _) rfl ⟨rfl, ow1, gr1⟩
set_option maxHeartbeats 1600000 in
theorem sortO_any (lo : Nat) (M : List Int) (A : Option Addr) (c : Nat) (w : World) (h8 : M.length ≤ 8) (hown : w.ownsRow lo 3 1 (.slice A M.length c) M.length (cI M)) :
    Calls Try.prog 40 #[.slice A M.length c] w fun e w' =>
      e = .returned (.tuple #[]) ∧ w'.ownsRow lo 3 1 (.slice A M.length c) M.length (cI (srtG M M.length)) ∧ w.grownBy w' (Value.slice A M.length c).ownBlock := by
  have HC := fun q => Lib.hid (pdq_any lo M A c q w h8 hown)
  have n1 : (M.length : Int) ≤ 8 := by omega
  clear hown
  go_enter Try.func40, Try.ntmps40
  go_wp2_with (first | (go_at_call 51; refine (Try.bits_Len (M.length : Int) _ (by omega) (by omega)).mono ?_; rintro e w1 ⟨rfl, rfl⟩) | (go_at_call 50; refine (HC _).out.mono ?_; rintro e w1 ⟨rfl, ow1, gr1⟩))
  go_end0
  exact ⟨rfl, ow1, gr1⟩
end Go.Proofs.Ytloienidakomdaa
