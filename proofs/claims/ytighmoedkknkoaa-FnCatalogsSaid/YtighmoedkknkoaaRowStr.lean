/- Slices of strings that read as lists; the laws' helpers on them (size, copy, compare, mark, look again); sizes up to 2^20. -/
import Derived.Test.YtighmoedkknkoaaData
import Derived.Test.YtighmoedkknkoaaMarkText
import Derived.Test.YtighmoedkknkoaaQB
import Derived.Handy
namespace Go.Proofs.Ytighmoedkknkoaa
open Go.RowKit Go.Sort

def cS (l : List ByteArray) : List Value := l.map Value.string
def gS (l : List ByteArray) (k : Nat) : ByteArray := l.getD k ByteArray.empty
def RdS (w : World) (v : Value) (l : List ByteArray) : Prop := Rd w 1 v l.length (cS l)
theorem cS_len (l : List ByteArray) : (cS l).length = l.length := by simp [cS]
theorem cS_get {l : List ByteArray} {k : Nat} (h : k < l.length) : (cS l)[k]? = some (.string (gS l k)) := by simp [cS, gS, h]
theorem gS_eq {l : List ByteArray} {k : Nat} (h : k < l.length) : gS l k = l[k] := by simp [gS, h]
theorem gS_mem {l : List ByteArray} {k : Nat} (h : k < l.length) : gS l k ∈ l := by rw [gS_eq h]; exact List.getElem_mem h
theorem cS_append (l m : List ByteArray) : cS (l ++ m) = cS l ++ cS m := by simp [cS]
theorem cS_set (l : List ByteArray) (k : Nat) (x : ByteArray) : (cS l).set k (.string x) = cS (l.set k x) := by simp [cS, List.map_set]
theorem cS_one (l : List ByteArray) : ∀ u ∈ cS l, u.oneCell' = true := by
  intro u hu
  simp only [cS, List.mem_map] at hu
  obtain ⟨x, _, rfl⟩ := hu
  rfl
theorem info_str : (Try.prog.info? 9).map (fun i => (i.zero, i.size, i.bytes)) = some (some (.string ⟨#[]⟩), 1, 16) := by kernel_rfl
theorem take_succ_gS {l : List ByteArray} {k : Nat} (h : k < l.length) : l.take (k + 1) = l.take k ++ [gS l k] := by
  rw [List.take_succ_eq_append_getElem h, gS_eq h]
theorem RdS.bl {w W : World} {v : Value} {l : List ByteArray} (h : RdS w v l) (b : Below w.heap.size w W) : RdS W v l := Rd.bl h b
theorem RdS.at_ {w : World} {A : Option Addr} {c : Nat} {l : List ByteArray} {k : Nat} (h : RdS w (.slice A l.length c) l) (hk : k < l.length) : ∃ b o, A = some ⟨b, o, none⟩ ∧ b < w.heap.size ∧ w.cell? ⟨b, o + k, none⟩ = some (.string (gS l k)) := by
  obtain ⟨b, o, hA, hb, q⟩ := Rd.look h (by omega)
  exact ⟨b, o, hA, hb, q _ _ (cS_get hk)⟩
/-- the bytes of all -/
def szS : List ByteArray → Nat
  | [] => 0
  | s :: l => s.size + szS l
theorem szS_append (l m : List ByteArray) : szS (l ++ m) = szS l + szS m := by
  induction l with
  | nil => simp [szS]
  | cons a l ih => rw [List.cons_append, szS, szS, ih]; omega
theorem szS_take {l : List ByteArray} {k : Nat} (h : k < l.length) : szS (l.take (k + 1)) = szS (l.take k) + (gS l k).size := by
  rw [take_succ_gS h, szS_append, szS, szS]; rfl
theorem szS_le (l : List ByteArray) (k : Nat) : szS (l.take k) ≤ szS l := by
  have := szS_append (l.take k) (l.drop k)
  rw [List.take_append_drop] at this
  omega
theorem szS_at {l : List ByteArray} {k : Nat} (h : k < l.length) : (gS l k).size ≤ szS l := by
  have := szS_take h
  have := szS_le l (k + 1)
  omega
set_option maxHeartbeats 800000 in
set_option maxRecDepth 100000 in
theorem eqStr_any (v1 v2 : Value) (l : List ByteArray) (w : World) (h1 : RdS w v1 l) (h2 : RdS w v2 l) (hl : l.length ≤ 1048577) :
    Calls Try.prog 50 #[v1, v2] w fun e w' => e = .returned (.bool true) ∧ Below w.heap.size w w' := by
  obtain ⟨A1, c1, rfl, _, _⟩ := Rd.form h1
  obtain ⟨A2, c2, rfl, _, _⟩ := Rd.form h2
  go_enter Try.func50, Try.ntmps50
  go_wp2
  go_loopw [5] (fun i wr => ∃ k nq : Nat, k ≤ l.length ∧ i = .int .i64 k ∧ wr = w.drewN nq) (fun i _ => l.length - (intOf i).toNat)
  case atStart => exact ⟨0, 0, Nat.zero_le _, rfl, rfl⟩
  case round =>
    obtain ⟨k, nq, hk, rfl, rfl⟩ := hrel
    by_cases hlt : k < l.length
    · obtain ⟨b1, o1, rfl, _, e0⟩ := RdS.at_ h1 hlt
      obtain ⟨b2, o2, rfl, _, d0⟩ := RdS.at_ h2 hlt
      have e0 : (w.drewN nq).cell? ⟨b1, o1 + k, none⟩ = _ := e0
      have d0 : (w.drewN nq).cell? ⟨b2, o2 + k, none⟩ = _ := d0
      have hlt' : (k : Int) < (l.length : Int) := by omega
      clear h1 h2
      generalize hwz : w.drewN nq = wz at *
      have HWZ := Lib.hid hwz
      clear hwz
      go_wp2
      go_big_quiet (fail)
      go_wp2
      go_roundw
      case rel => exact ⟨k + 1, _, by omega, by go_num, by rw [← HWZ.out, World.drewN_drewN]⟩
      case measure => simp [intOf]; omega
    · have hlt' : ¬ (k : Int) < (l.length : Int) := by omega
      go_wp2
      go_ret
      exact ⟨rfl, bl_drewN (Below.refl _ _) _⟩
/-- the marks from k on -/
def upS (k n : Nat) : List ByteArray := (List.range n).map fun i => mkT (k + i)
theorem upS_len (k n : Nat) : (upS k n).length = n := by simp [upS]
theorem upS_get {k n i : Nat} (h : i < n) : gS (upS k n) i = mkT (k + i) := by simp [gS, upS, h]
theorem upS_get' {k n i : Nat} (h : i < (upS k n).length) : (upS k n)[i] = mkT (k + i) := by simp [upS]
set_option maxHeartbeats 1600000 in
set_option maxRecDepth 100000 in
theorem markStr_any (lo : Nat) (v : Value) (l : List ByteArray) (k0 : Nat) (w : World) (h1 : w.ownsRow lo 9 1 v l.length (cS l)) (hl : l.length ≤ 1048577) (hk0 : 0 < k0) (hk1 : k0 ≤ 900000000) :
    Calls Try.prog 51 #[v, .int .i64 (k0 : Int)] w fun e w' => e = .returned (.int .i64 ((k0 + l.length : Nat) : Int)) ∧ w'.ownsRow lo 9 1 v l.length (cS (upS k0 l.length)) ∧ w.grownBy w' v.ownBlock := by
  obtain ⟨A1, c1, rfl⟩ := own_form h1
  go_enter Try.func51, Try.ntmps51
  go_wp2
  go_loopw [1, 5] (fun q i wr => ∃ k : Nat, k ≤ l.length ∧ i = .int .i64 k ∧ q = .int .i64 ((k0 + k : Nat) : Int) ∧ w.grownBy wr (Value.slice A1 l.length c1).ownBlock ∧ wr.ownsRow lo 9 1 (.slice A1 l.length c1) l.length (cS ((upS k0 l.length).take k ++ l.drop k))) (fun _ i _ => l.length - (intOf i).toNat)
  case atStart => exact ⟨0, Nat.zero_le _, rfl, by simp, World.grownBy.refl _ _, by simpa using h1⟩
  case round =>
    obtain ⟨k, hk, rfl, rfl, bel, ow⟩ := hrel
    by_cases hlt : k < l.length
    · obtain ⟨b, o, rfl, hb, _⟩ := (Rd.of_own h1).look (by omega)
      obtain rfl : o = 0 := by
        rcases h1.2 with ⟨h, _⟩ | ⟨g, _, _, h, _⟩
        · simp at h
        · simp at h; exact h.1.2
      have hlen : ((upS k0 l.length).take k ++ l.drop k).length = l.length := by simp [upS_len]; omega
      have HL := Lib.hid hlen
      clear hlen
      obtain ⟨K, hK⟩ : ∃ K, k0 + k = K := ⟨_, rfl⟩
      have HK := Lib.hid hK
      have cm := fun W => markText_any K W (by omega) (by omega)
      have CM := Lib.hid cm
      have hlt' : (k : Int) < (l.length : Int) := by omega
      rw [hK]
      clear cm h1
      go_wp2_with (go_at_call 42; refine (CM.out _).mono ?_; rintro e w2 ⟨rfl, b2⟩; have ow2 := own_bl ow b2; have e2 : w2.cell? ⟨b, k, none⟩ = some (.string (gS ((upS k0 l.length).take k ++ l.drop k) k)) := (ow2.cellAt k (by omega)).trans (cS_get (by rw [HL.out]; exact hlt)); have e3 := ow2.frozenAt k)
      have st := ow2.stored k (.string (mkT K))
      have ow' := st.1
      have gr' : w.grownBy (w2.setCell ⟨b, k, none⟩ (.string (mkT K))) (some b) := ⟨st.2.os.trans (b2.os.trans bel.os), st.2.tape.trans (b2.tape.trans bel.tape), st.2.output.trans (b2.output.trans bel.output), Nat.le_trans bel.size (Nat.le_trans b2.size st.2.size), fun i hi hn => (st.2.block i (Nat.lt_of_lt_of_le hi (Nat.le_trans bel.size b2.size)) hn).trans ((b2.block i (Nat.lt_of_lt_of_le hi bel.size)).trans (bel.block i hi (by simpa [Value.ownBlock] using hn)))⟩
      rw [cS_set, show mkT K = (upS k0 l.length)[k]'(by rw [upS_len]; exact hlt) from by rw [upS_get', HK.out], take_succ_set _ _ _ (by rw [upS_len]; exact hlt) (by rw [upS_len]), upS_get', HK.out] at ow'
      clear st ow bel hK
      go_roundw
      case rel => exact ⟨k + 1, by omega, by go_num, by rw [← Nat.add_assoc, HK.out]; go_num, gr', ow'⟩
      case measure => simp [intOf]; omega
    · have e : k = l.length := by omega
      have hd : (upS k0 l.length).take k ++ l.drop k = upS k0 l.length := by rw [e, List.drop_of_length_le (Nat.le_refl _), List.append_nil, List.take_of_length_le (by rw [upS_len]; exact Nat.le_refl _)]
      rw [hd] at ow
      clear hd
      have hlt' : ¬ (k : Int) < (l.length : Int) := by omega
      go_wp2
      go_ret
      exact ⟨ret_int (by first | rfl | rw [e] | omega), ow, bel⟩
set_option maxHeartbeats 1600000 in
set_option maxRecDepth 100000 in
theorem heldStr_any (v : Value) (n : Nat) (k0 : Nat) (w : World) (h1 : Rd w 1 v n (cS (upS k0 n))) (hl : n ≤ 1048577) (hk0 : 0 < k0) (hk1 : k0 ≤ 900000000) :
    Calls Try.prog 52 #[v, .int .i64 (k0 : Int)] w fun e w' => e = .returned (.int .i64 ((k0 + n : Nat) : Int)) ∧ Below w.heap.size w w' := by
  obtain ⟨A1, c1, rfl, _, _⟩ := h1.form
  go_enter Try.func52, Try.ntmps52
  go_wp2
  go_loopw [1, 5] (fun q i wr => ∃ k : Nat, k ≤ n ∧ i = .int .i64 k ∧ q = .int .i64 ((k0 + k : Nat) : Int) ∧ Below w.heap.size w wr) (fun _ i _ => n - (intOf i).toNat)
  case atStart => exact ⟨0, Nat.zero_le _, rfl, by simp, Below.refl _ _⟩
  case round =>
    obtain ⟨k, hk, rfl, rfl, bel⟩ := hrel
    by_cases hlt : k < n
    · obtain ⟨b, o, rfl, hb, q1⟩ := (h1.bl bel).look (by omega)
      have e1 := q1 k _ (cS_get (by rw [upS_len]; exact hlt))
      rw [upS_get hlt] at e1
      obtain ⟨K, hK⟩ : ∃ K, k0 + k = K := ⟨_, rfl⟩
      have HK := Lib.hid hK
      have cm := fun W => markText_any K W (by omega) (by omega)
      have CM := Lib.hid cm
      have hlt' : (k : Int) < (n : Int) := by omega
      have hKb : K ≤ 1000000000 := by omega
      rw [hK] at e1
      rw [hK]
      have g0 := cell_regrown e1
      clear cm h1 q1 hK e1
      go_wp2
      (refine wp_region_quiet_below (by kernel_rfl) (by kernel_rfl) ?_; (repeat (first | go_big_quiet_skip | (go_big_quiet_want; go_big_quiet_op; (first | go_big_quiet_on | (apply Exists.intro; refine ⟨fun _ => ?_, ?_⟩; (focus (first | (go_at_call 42; exact Calls.regrown_of (CM.out _)) | fail)); go_big_quiet_on))))); refine wpQuiet_nil ?_; (intro wq hwq; have bq := rg_below hwq; clear hwq))
      have belq := bl_to bel bq
      clear bel bq g0
      go_wp2
      go_roundw
      case rel => exact ⟨k + 1, by omega, by go_num, by rw [show k0 + (k + 1) = K + 1 by have := HK.out; omega]; first | go_num | (have := HK.out; go_num) | (have := HK.out; simp; omega), belq⟩
      case measure => simp [intOf]; omega
    · have e : k = n := by omega
      have hlt' : ¬ (k : Int) < (n : Int) := by omega
      go_wp2
      go_ret
      exact ⟨ret_int (by first | rfl | rw [e] | omega), bel⟩
end Go.Proofs.Ytighmoedkknkoaa
