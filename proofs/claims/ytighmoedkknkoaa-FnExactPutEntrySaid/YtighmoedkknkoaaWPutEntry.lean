/- FnExactPutEntry: the law returns true at every input; no condition. -/
import Derived.Test.YtighmoedkknkoaaPut
import Derived.Test.YtighmoedkknkoaaPutS
import Derived.Test.YtighmoedkknkoaaMarkEntry
import Derived.Deep.DeepCutAuto
import Derived.Deep.RegionHeld3
namespace Go.Proofs.Ytighmoedkknkoaa
open Go.RowKit Go.Sort

set_option maxHeartbeats 800000 in
theorem markEntry_any (lo : Nat) (s : ByteArray) (v : Value) (m : List (Int × Int)) (k : Int) (w : World) (h : w.ownsRow lo 73 2 v m.length (cN m)) (hl : m.length ≤ 1048576) (hk : 0 ≤ k) (hk2 : k ≤ 900000000) (a b : Nat) (hv : ∀ q, v.ownBlock = some q → a ≤ q ∧ q < b) :
    Calls Try.prog 25 #[.agg #[.string s, v], .int .i64 k] w fun e w' => e = .returned (.int .i64 (k + 2 * m.length)) ∧ Apart a b w w' := by
  obtain ⟨A, c, rfl⟩ := own_form h
  go_enter Try.func25, Try.ntmps25
  go_wp2_with (go_at_call 43; refine (markNoteS_any lo _ m k _ (h.alloc _) hl hk (by omega)).mono ?_; rintro e w1 ⟨rfl, om, gr⟩)
  go_ret
  have pa := (Below.apart (B := w.heap.size) ((Below.refl _ _).alloc (Nat.le_refl _) (.cells #[.string s, .slice A m.length c] 41) : Below w.heap.size w (w.alloc (.cells #[.string s, .slice A m.length c] 41))) w.heap.size (Nat.le_refl _))
  have pa2 : Apart a b w (w.alloc (.cells #[.string s, .slice A m.length c] 41)) := ⟨pa.os, pa.tape, pa.output, pa.size, fun i hi _ => pa.block i hi (.inl hi)⟩
  exact ⟨rfl, pa2.trans (World.grownBy.apart gr hv)⟩
set_option maxHeartbeats 12800000 in
set_option maxRecDepth 100000 in
theorem putEntry_law (v : Value) (l : List En) (s : ByteArray) (ve : Value) (m : List (Int × Int)) (w : World) (hr : RdE w v l) (hs : ∀ j, j < l.length → (gE l j).1.size ≤ maxLen) (hn : RdN w ve m) (hm : s.size ≤ maxLen) : Calls Try.prog 6 #[v, .agg #[.string s, ve]] w fun e w' => e = .returned (.bool true) ∧ Below w.heap.size w w' := by
  obtain ⟨Ae, ce, rfl, _, _⟩ := hn.form
  obtain ⟨me, hme⟩ : ∃ n, m.length = n := ⟨_, rfl⟩
  rw [hme] at hn
  rw [hme]
  have bel := bl_alloc (Below.refl _ w) (.cells #[.string s, .slice Ae me ce] 36)
  have q_e0 : (w.alloc (.cells #[.string s, .slice Ae me ce] 36)).cell? ⟨w.heap.size, 0, none⟩ = some (.string s) := by simp [go_sem]
  have q_e1 : (w.alloc (.cells #[.string s, .slice Ae me ce] 36)).cell? ⟨w.heap.size, 1, none⟩ = some (.slice Ae me ce) := by simp [go_sem]
  have lt_e : w.heap.size < (w.alloc (.cells #[.string s, .slice Ae me ce] 36)).heap.size := by simp
  have sz := szEntryS_any v l 1048576 _ (hr.bl bel) hs (by omega) (by omega)
  by_cases hl0 : l.length + szE l ≤ 1048576
  rotate_left
  · rw [if_pos (by omega)] at sz
    go_enter Try.func6, Try.ntmps6
    go_wp2_with fail
    refine sz.mono ?_
    rintro e w1 ⟨rfl, b1⟩
    go_wp2
    go_ret
    exact ⟨rfl, bl_to bel b1⟩
  rw [if_neg (by omega)] at sz
  have hln : ¬ (1048576 : Int) - (l.length + szE l : Nat) < 0 := by omega
  have hln2 : (1048576 : Int) - (l.length + szE l : Nat) ≤ 1048576 := by omega
  have sz2 := fun W h => szEntry_any s (.slice Ae me ce) m ((1048576 : Int) - (l.length + szE l : Nat)) W hm h (by omega) hln2
  by_cases hl : l.length + szE l + (s.size + m.length) ≤ 1048576
  rotate_left
  · have hneg : (1048576 : Int) - (l.length + szE l : Nat) - (s.size + m.length : Nat) < 0 := by omega
    rw [if_pos hneg] at sz2
    generalize (1048576 : Int) - (l.length + szE l : Nat) = Z at *
    have SZ2 := Lib.hid sz2
    clear sz2 hme
    go_enter Try.func6, Try.ntmps6
    go_wp2_with fail
    refine sz.mono ?_
    rintro e w1 ⟨rfl, b1⟩
    have q_e0 := (b1.cell (p := ⟨w.heap.size, 0, none⟩) lt_e).trans q_e0
    have q_e1 := (b1.cell (p := ⟨w.heap.size, 1, none⟩) lt_e).trans q_e1
    have bel := bl_to bel b1
    clear b1
    go_wp2_with fail
    refine (SZ2.out _ (hn.bl bel)).mono ?_
    rintro e w2 ⟨rfl, b2⟩
    go_wp2
    go_ret
    exact ⟨rfl, bl_to bel b2⟩
  have hneg : ¬ (1048576 : Int) - (l.length + szE l : Nat) - (s.size + m.length : Nat) < 0 := by omega
  rw [if_neg hneg] at sz2
  have hLs := putL_sz l (s, m)
  simp only at hLs
  have cs := fun W v ve h h2 => putS_any v s ve m l W h h2 hl
  have ci := fun W v ve h h2 => putI_any v s ve m l W h h2 hl
  have mx := fun W lo hi v (h : OwnE lo hi W v l) (hh : hi ≤ W.heap.size) => markEntryS_any lo hi v l 1 W h (by omega) hh (by omega) (by omega)
  have hcl := cntE_sz l
  generalize putL l (s, m) = L at *
  generalize putQ l (s, m) = Q at *
  have hLL : L.length + szE L ≤ 1048577 := by omega
  have mg := fun W lo hi v (h : OwnE lo hi W v L) (hh : hi ≤ W.heap.size) => markEntryS_any lo hi v L 1 W h (by omega) hh (by omega) (by omega)
  have hg := fun W v (h : RdE W v (mkE 1 L)) => heldEntryS_any v L 1 W h (by omega) (by omega) (by omega)
  have hcx : 1 + cntE l ≤ 10000000 := by omega
  generalize 1 + cntE l = cx at *
  generalize 1 + cntE L = cg at *
  have hll : l.length + szE l ≤ 1048577 := by omega
  have hml : m.length ≤ 1048576 := by omega
  generalize (1048576 : Int) - (l.length + szE l : Nat) = Z at *
  generalize Z - (s.size + m.length : Nat) = Z2 at *
  have SZ2 := Lib.hid sz2
  have CS := Lib.hid cs
  have CI := Lib.hid ci
  have MX := Lib.hid mx
  have MG := Lib.hid mg
  have HG := Lib.hid hg
  have HME := Lib.hid hme
  clear cs ci mx mg hg hLs sz2 hcl hme
  go_enter Try.func6, Try.ntmps6
  go_wp2_with fail
  refine sz.mono ?_
  rintro e w1 ⟨rfl, b1⟩
  replace q_e0 := (b1.cell (p := ⟨w.heap.size, 0, none⟩) lt_e).trans q_e0
  replace q_e1 := (b1.cell (p := ⟨w.heap.size, 1, none⟩) lt_e).trans q_e1
  replace lt_e : w.heap.size < w1.heap.size := Nat.lt_of_lt_of_le lt_e b1.size
  replace bel := bl_to bel b1
  have s1 : w.heap.size < w1.heap.size := lt_e
  clear b1 sz
  go_wp2_with fail
  refine ((SZ2.out _ (hn.bl bel))).mono ?_
  rintro e w2 ⟨rfl, b2⟩
  have s2 : w1.heap.size ≤ w2.heap.size := b2.size
  replace q_e0 := (b2.cell (p := ⟨w.heap.size, 0, none⟩) lt_e).trans q_e0
  replace q_e1 := (b2.cell (p := ⟨w.heap.size, 1, none⟩) lt_e).trans q_e1
  replace lt_e : w.heap.size < w2.heap.size := Nat.lt_of_lt_of_le lt_e b2.size
  replace bel : Below w.heap.size w w2 := bl_to bel b2
  clear b2
  go_upto_region 8 with (fail)
  go_cut [6, 7] (fun q u wx => ∃ A c, q = .slice A L.length c ∧ u = .bool Q ∧ OwnE w2.heap.size wx.heap.size wx (.slice A L.length c) L ∧ Below w2.heap.size w2 wx)
  case first =>
    have hr' := hr.bl bel
    have hn' := hn.bl bel
    go_region_held3 (fun w' => w'.cell? ⟨w.heap.size, 0, none⟩ = some (.string s) ∧ w'.cell? ⟨w.heap.size, 1, none⟩ = some (.slice Ae me ce))
      (first | exact ⟨x0, x1⟩ | exact ⟨v0, v1⟩ | exact ⟨u0, u1⟩ | go_keep)
      (first
        | (go_at_call 21; refine (CS.out _ _ _ rA rB).mono ?_; rintro e wC ⟨A4, c4, rfl, o4, b4⟩; have x0 := (show Below w2.heap.size w2 wC by (repeat' (first | (with_reducible exact Below.refl _ _) | (with_reducible refine bl_alloc ?_ _) | (with_reducible refine bl_drewN ?_ _) | (with_reducible refine bl_drew ?_) | (with_reducible assumption) | (with_reducible refine bl_to ?_ (by assumption)) | (with_reducible refine Below.trans ?_ (by assumption)) | (with_reducible refine Below.trans ?_ (Below.mono (by assumption) ?_)) | (with_reducible refine bl_set ?_ ?_ _) | (simp; done) | (simp; omega) | omega))).cell (p := ⟨w.heap.size, 0, none⟩) lt_e |>.trans q_e0; have x1 := (show Below w2.heap.size w2 wC by (repeat' (first | (with_reducible exact Below.refl _ _) | (with_reducible refine bl_alloc ?_ _) | (with_reducible refine bl_drewN ?_ _) | (with_reducible refine bl_drew ?_) | (with_reducible assumption) | (with_reducible refine bl_to ?_ (by assumption)) | (with_reducible refine Below.trans ?_ (by assumption)) | (with_reducible refine Below.trans ?_ (Below.mono (by assumption) ?_)) | (with_reducible refine bl_set ?_ ?_ _) | (simp; done) | (simp; omega) | omega))).cell (p := ⟨w.heap.size, 1, none⟩) lt_e |>.trans q_e1)
        | (have tok := bB; go_at_call 11; refine (toEntryS_any v l _ (hr'.bl (by (repeat' (first | (with_reducible exact Below.refl _ _) | (with_reducible refine bl_alloc ?_ _) | (with_reducible refine bl_drewN ?_ _) | (with_reducible refine bl_drew ?_) | (with_reducible assumption) | (with_reducible refine bl_to ?_ (by assumption)) | (with_reducible refine Below.trans ?_ (by assumption)) | (with_reducible refine Below.trans ?_ (Below.mono (by assumption) ?_)) | (with_reducible refine bl_set ?_ ?_ _) | (simp; done) | (simp; omega) | omega)))) (by omega)).mono ?_; rintro e wA ⟨Aa, ca, rfl, oA, bA⟩; have rA := oA.rd; have rB := rB.bl bA; have u0 := (show Below w2.heap.size w2 wA by (repeat' (first | (with_reducible exact Below.refl _ _) | (with_reducible refine bl_alloc ?_ _) | (with_reducible refine bl_drewN ?_ _) | (with_reducible refine bl_drew ?_) | (with_reducible assumption) | (with_reducible refine bl_to ?_ (by assumption)) | (with_reducible refine Below.trans ?_ (by assumption)) | (with_reducible refine Below.trans ?_ (Below.mono (by assumption) ?_)) | (with_reducible refine bl_set ?_ ?_ _) | (simp; done) | (simp; omega) | omega))).cell (p := ⟨w.heap.size, 0, none⟩) lt_e |>.trans q_e0; have u1 := (show Below w2.heap.size w2 wA by (repeat' (first | (with_reducible exact Below.refl _ _) | (with_reducible refine bl_alloc ?_ _) | (with_reducible refine bl_drewN ?_ _) | (with_reducible refine bl_drew ?_) | (with_reducible assumption) | (with_reducible refine bl_to ?_ (by assumption)) | (with_reducible refine Below.trans ?_ (by assumption)) | (with_reducible refine Below.trans ?_ (Below.mono (by assumption) ?_)) | (with_reducible refine bl_set ?_ ?_ _) | (simp; done) | (simp; omega) | omega))).cell (p := ⟨w.heap.size, 1, none⟩) lt_e |>.trans q_e1; clear tok)
        | (go_at_call 11; refine (toEntryS_any v l _ (hr'.bl (by (repeat' (first | (with_reducible exact Below.refl _ _) | (with_reducible refine bl_alloc ?_ _) | (with_reducible refine bl_drewN ?_ _) | (with_reducible refine bl_drew ?_) | (with_reducible assumption) | (with_reducible refine bl_to ?_ (by assumption)) | (with_reducible refine Below.trans ?_ (by assumption)) | (with_reducible refine Below.trans ?_ (Below.mono (by assumption) ?_)) | (with_reducible refine bl_set ?_ ?_ _) | (simp; done) | (simp; omega) | omega)))) (by omega)).mono ?_; rintro e wA ⟨Aa, ca, rfl, oA, bA⟩; have rA := oA.rd; have u0 := (show Below w2.heap.size w2 wA by (repeat' (first | (with_reducible exact Below.refl _ _) | (with_reducible refine bl_alloc ?_ _) | (with_reducible refine bl_drewN ?_ _) | (with_reducible refine bl_drew ?_) | (with_reducible assumption) | (with_reducible refine bl_to ?_ (by assumption)) | (with_reducible refine Below.trans ?_ (by assumption)) | (with_reducible refine Below.trans ?_ (Below.mono (by assumption) ?_)) | (with_reducible refine bl_set ?_ ?_ _) | (simp; done) | (simp; omega) | omega))).cell (p := ⟨w.heap.size, 0, none⟩) lt_e |>.trans q_e0; have u1 := (show Below w2.heap.size w2 wA by (repeat' (first | (with_reducible exact Below.refl _ _) | (with_reducible refine bl_alloc ?_ _) | (with_reducible refine bl_drewN ?_ _) | (with_reducible refine bl_drew ?_) | (with_reducible assumption) | (with_reducible refine bl_to ?_ (by assumption)) | (with_reducible refine Below.trans ?_ (by assumption)) | (with_reducible refine Below.trans ?_ (Below.mono (by assumption) ?_)) | (with_reducible refine bl_set ?_ ?_ _) | (simp; done) | (simp; omega) | omega))).cell (p := ⟨w.heap.size, 1, none⟩) lt_e |>.trans q_e1)
        | (have tok := bA; go_at_call 22; refine (toEntry_any s _ m _ (hn'.bl (by (repeat' (first | (with_reducible exact Below.refl _ _) | (with_reducible refine bl_alloc ?_ _) | (with_reducible refine bl_drewN ?_ _) | (with_reducible refine bl_drew ?_) | (with_reducible assumption) | (with_reducible refine bl_to ?_ (by assumption)) | (with_reducible refine Below.trans ?_ (by assumption)) | (with_reducible refine Below.trans ?_ (Below.mono (by assumption) ?_)) | (with_reducible refine bl_set ?_ ?_ _) | (simp; done) | (simp; omega) | omega)))) hml).mono ?_; rintro e wB ⟨Ab, cb, rfl, oB, bB⟩; have rB : RdN wB (.slice Ab m.length cb) m := Rd.of_own oB; have rA := rA.bl bB; have v0 := (show Below w2.heap.size w2 wB by (repeat' (first | (with_reducible exact Below.refl _ _) | (with_reducible refine bl_alloc ?_ _) | (with_reducible refine bl_drewN ?_ _) | (with_reducible refine bl_drew ?_) | (with_reducible assumption) | (with_reducible refine bl_to ?_ (by assumption)) | (with_reducible refine Below.trans ?_ (by assumption)) | (with_reducible refine Below.trans ?_ (Below.mono (by assumption) ?_)) | (with_reducible refine bl_set ?_ ?_ _) | (simp; done) | (simp; omega) | omega))).cell (p := ⟨w.heap.size, 0, none⟩) lt_e |>.trans q_e0; have v1 := (show Below w2.heap.size w2 wB by (repeat' (first | (with_reducible exact Below.refl _ _) | (with_reducible refine bl_alloc ?_ _) | (with_reducible refine bl_drewN ?_ _) | (with_reducible refine bl_drew ?_) | (with_reducible assumption) | (with_reducible refine bl_to ?_ (by assumption)) | (with_reducible refine Below.trans ?_ (by assumption)) | (with_reducible refine Below.trans ?_ (Below.mono (by assumption) ?_)) | (with_reducible refine bl_set ?_ ?_ _) | (simp; done) | (simp; omega) | omega))).cell (p := ⟨w.heap.size, 1, none⟩) lt_e |>.trans q_e1; clear tok)
        | (go_at_call 22; refine (toEntry_any s _ m _ (hn'.bl (by (repeat' (first | (with_reducible exact Below.refl _ _) | (with_reducible refine bl_alloc ?_ _) | (with_reducible refine bl_drewN ?_ _) | (with_reducible refine bl_drew ?_) | (with_reducible assumption) | (with_reducible refine bl_to ?_ (by assumption)) | (with_reducible refine Below.trans ?_ (by assumption)) | (with_reducible refine Below.trans ?_ (Below.mono (by assumption) ?_)) | (with_reducible refine bl_set ?_ ?_ _) | (simp; done) | (simp; omega) | omega)))) hml).mono ?_; rintro e wB ⟨Ab, cb, rfl, oB, bB⟩; have rB : RdN wB (.slice Ab m.length cb) m := Rd.of_own oB; have v0 := (show Below w2.heap.size w2 wB by (repeat' (first | (with_reducible exact Below.refl _ _) | (with_reducible refine bl_alloc ?_ _) | (with_reducible refine bl_drewN ?_ _) | (with_reducible refine bl_drew ?_) | (with_reducible assumption) | (with_reducible refine bl_to ?_ (by assumption)) | (with_reducible refine Below.trans ?_ (by assumption)) | (with_reducible refine Below.trans ?_ (Below.mono (by assumption) ?_)) | (with_reducible refine bl_set ?_ ?_ _) | (simp; done) | (simp; omega) | omega))).cell (p := ⟨w.heap.size, 0, none⟩) lt_e |>.trans q_e0; have v1 := (show Below w2.heap.size w2 wB by (repeat' (first | (with_reducible exact Below.refl _ _) | (with_reducible refine bl_alloc ?_ _) | (with_reducible refine bl_drewN ?_ _) | (with_reducible refine bl_drew ?_) | (with_reducible assumption) | (with_reducible refine bl_to ?_ (by assumption)) | (with_reducible refine Below.trans ?_ (by assumption)) | (with_reducible refine Below.trans ?_ (Below.mono (by assumption) ?_)) | (with_reducible refine bl_set ?_ ?_ _) | (simp; done) | (simp; omega) | omega))).cell (p := ⟨w.heap.size, 1, none⟩) lt_e |>.trans q_e1))
    all_goals (have z4 : w2.heap.size ≤ _ := (show Below w2.heap.size w2 wC by (repeat' (first | (with_reducible exact Below.refl _ _) | (with_reducible refine bl_alloc ?_ _) | (with_reducible refine bl_drewN ?_ _) | (with_reducible refine bl_drew ?_) | (with_reducible assumption) | (with_reducible refine bl_to ?_ (by assumption)) | (with_reducible refine Below.trans ?_ (by assumption)) | (with_reducible refine Below.trans ?_ (Below.mono (by assumption) ?_)) | (with_reducible refine bl_set ?_ ?_ _) | (simp; done) | (simp; omega) | omega))).size; have zA := bA.size; have zB := bB.size; (try simp at zA zB); go_wp2; go_meet; exact ⟨A4, c4, rfl, rfl, o4.mono (by first | omega | (simp; omega)) (Nat.le_refl _), by (repeat' (first | (with_reducible exact Below.refl _ _) | (with_reducible refine bl_alloc ?_ _) | (with_reducible refine bl_drewN ?_ _) | (with_reducible refine bl_drew ?_) | (with_reducible assumption) | (with_reducible refine bl_to ?_ (by assumption)) | (with_reducible refine Below.trans ?_ (by assumption)) | (with_reducible refine Below.trans ?_ (Below.mono (by assumption) ?_)) | (with_reducible refine bl_set ?_ ?_ _) | (simp; done) | (simp; omega) | omega))⟩)
  case rest =>
    obtain ⟨A_s, c_s, rfl, rfl, o_s, b3⟩ := hcut
    obtain ⟨w3, rfl⟩ : ∃ x : World, x = wc := ⟨_, rfl⟩
    have s3 : w2.heap.size ≤ w3.heap.size := b3.size
    replace q_e0 := (b3.cell (p := ⟨w.heap.size, 0, none⟩) lt_e).trans q_e0
    replace q_e1 := (b3.cell (p := ⟨w.heap.size, 1, none⟩) lt_e).trans q_e1
    replace lt_e : w.heap.size < w3.heap.size := Nat.lt_of_lt_of_le lt_e b3.size
    replace bel : Below w.heap.size w w3 := bl_to bel b3
    clear b3
    go_wp2_with fail
    refine (toEntryS_any v l _ (hr.bl bel) (by omega)).mono ?_
    rintro e w4 ⟨A_x, c_x, rfl, o_x, b4⟩
    have s4 : w3.heap.size ≤ w4.heap.size := b4.size
    replace o_s := o_s.bl b4
    replace q_e0 := (b4.cell (p := ⟨w.heap.size, 0, none⟩) lt_e).trans q_e0
    replace q_e1 := (b4.cell (p := ⟨w.heap.size, 1, none⟩) lt_e).trans q_e1
    replace lt_e : w.heap.size < w4.heap.size := Nat.lt_of_lt_of_le lt_e b4.size
    replace bel : Below w.heap.size w w4 := bl_to bel b4
    clear b4
    go_wp2_with fail
    refine (toEntry_any s _ m _ (hn.bl bel) hml).mono ?_
    rintro e w5 ⟨A_u, c_u, rfl, o_u, b5⟩
    have s5 : w4.heap.size ≤ w5.heap.size := b5.size
    replace o_s := o_s.bl b5
    replace o_x := o_x.bl b5
    replace q_e0 := (b5.cell (p := ⟨w.heap.size, 0, none⟩) lt_e).trans q_e0
    replace q_e1 := (b5.cell (p := ⟨w.heap.size, 1, none⟩) lt_e).trans q_e1
    replace lt_e : w.heap.size < w5.heap.size := Nat.lt_of_lt_of_le lt_e b5.size
    replace bel : Below w.heap.size w w5 := bl_to bel b5
    clear b5
    have hu : Hid (∀ b, (Value.slice A_u m.length c_u).ownBlock = some b → w4.heap.size ≤ b ∧ b < w5.heap.size) := o_u.lt
    go_upto_region 11 with (fail)
    have ba := bl_alloc (Below.refl _ w5) (.cells #[.string s, .slice A_u m.length c_u] 41)
    have q_x0 : (w5.alloc (.cells #[.string s, .slice A_u m.length c_u] 41)).cell? ⟨w5.heap.size, 0, none⟩ = some (.string s) := by simp [go_sem]
    have q_x1 : (w5.alloc (.cells #[.string s, .slice A_u m.length c_u] 41)).cell? ⟨w5.heap.size, 1, none⟩ = some (.slice A_u m.length c_u) := by simp [go_sem]
    have lt_x : w5.heap.size < (w5.alloc (.cells #[.string s, .slice A_u m.length c_u] 41)).heap.size := by simp
    have b6 := ba
    generalize hW6 : w5.alloc (.cells #[.string s, .slice A_u m.length c_u] 41) = w6 at *
    clear ba hW6
    have s6 : w5.heap.size ≤ w6.heap.size := b6.size
    replace o_s := o_s.bl b6
    replace o_x := o_x.bl b6
    replace q_e0 := (b6.cell (p := ⟨w.heap.size, 0, none⟩) lt_e).trans q_e0
    replace q_e1 := (b6.cell (p := ⟨w.heap.size, 1, none⟩) lt_e).trans q_e1
    replace lt_e : w.heap.size < w6.heap.size := Nat.lt_of_lt_of_le lt_e b6.size
    replace o_u := own_bl o_u b6
    replace bel : Below w.heap.size w w6 := bl_to bel b6
    clear b6
    have sx : w5.heap.size < w6.heap.size := lt_x
    go_wp2_with fail
    refine (CI.out _ _ _ o_x.rd (show RdN _ _ m from Rd.of_own o_u)).mono ?_
    rintro e w7 ⟨A_g, c_g, rfl, o_g, b7⟩
    have s7 : w6.heap.size ≤ w7.heap.size := b7.size
    replace o_s := o_s.bl b7
    replace o_x := o_x.bl b7
    replace q_e0 := (b7.cell (p := ⟨w.heap.size, 0, none⟩) lt_e).trans q_e0
    replace q_e1 := (b7.cell (p := ⟨w.heap.size, 1, none⟩) lt_e).trans q_e1
    replace lt_e : w.heap.size < w7.heap.size := Nat.lt_of_lt_of_le lt_e b7.size
    replace q_x0 := (b7.cell (p := ⟨w5.heap.size, 0, none⟩) lt_x).trans q_x0
    replace q_x1 := (b7.cell (p := ⟨w5.heap.size, 1, none⟩) lt_x).trans q_x1
    replace lt_x : w5.heap.size < w7.heap.size := Nat.lt_of_lt_of_le lt_x b7.size
    replace o_u := own_bl o_u b7
    replace bel : Below w.heap.size w w7 := bl_to bel b7
    clear b7
    go_wp2_with fail
    refine (eqEntryS_any _ _ L _ o_g.rd o_s.rd hLL).mono ?_
    rintro e w8 ⟨rfl, b8⟩
    have s8 : w7.heap.size ≤ w8.heap.size := b8.size
    replace o_s := o_s.bl b8
    replace o_x := o_x.bl b8
    replace o_g := o_g.bl b8
    replace q_e0 := (b8.cell (p := ⟨w.heap.size, 0, none⟩) lt_e).trans q_e0
    replace q_e1 := (b8.cell (p := ⟨w.heap.size, 1, none⟩) lt_e).trans q_e1
    replace lt_e : w.heap.size < w8.heap.size := Nat.lt_of_lt_of_le lt_e b8.size
    replace q_x0 := (b8.cell (p := ⟨w5.heap.size, 0, none⟩) lt_x).trans q_x0
    replace q_x1 := (b8.cell (p := ⟨w5.heap.size, 1, none⟩) lt_x).trans q_x1
    replace lt_x : w5.heap.size < w8.heap.size := Nat.lt_of_lt_of_le lt_x b8.size
    replace o_u := own_bl o_u b8
    replace bel : Below w.heap.size w w8 := bl_to bel b8
    clear b8
    go_wp2_with fail
    refine (toEntryS_any v l _ (hr.bl bel) (by omega)).mono ?_
    rintro e w9 ⟨A_y, c_y, rfl, o_y, b9⟩
    have s9 : w8.heap.size ≤ w9.heap.size := b9.size
    replace o_s := o_s.bl b9
    replace o_x := o_x.bl b9
    replace o_g := o_g.bl b9
    replace q_e0 := (b9.cell (p := ⟨w.heap.size, 0, none⟩) lt_e).trans q_e0
    replace q_e1 := (b9.cell (p := ⟨w.heap.size, 1, none⟩) lt_e).trans q_e1
    replace lt_e : w.heap.size < w9.heap.size := Nat.lt_of_lt_of_le lt_e b9.size
    replace q_x0 := (b9.cell (p := ⟨w5.heap.size, 0, none⟩) lt_x).trans q_x0
    replace q_x1 := (b9.cell (p := ⟨w5.heap.size, 1, none⟩) lt_x).trans q_x1
    replace lt_x : w5.heap.size < w9.heap.size := Nat.lt_of_lt_of_le lt_x b9.size
    replace o_u := own_bl o_u b9
    replace bel : Below w.heap.size w w9 := bl_to bel b9
    clear b9
    go_wp2_with fail
    refine (eqEntryS_any _ _ l _ o_x.rd o_y.rd hll).mono ?_
    rintro e w10 ⟨rfl, b10⟩
    have s10 : w9.heap.size ≤ w10.heap.size := b10.size
    replace o_s := o_s.bl b10
    replace o_x := o_x.bl b10
    replace o_g := o_g.bl b10
    replace o_y := o_y.bl b10
    replace q_e0 := (b10.cell (p := ⟨w.heap.size, 0, none⟩) lt_e).trans q_e0
    replace q_e1 := (b10.cell (p := ⟨w.heap.size, 1, none⟩) lt_e).trans q_e1
    replace lt_e : w.heap.size < w10.heap.size := Nat.lt_of_lt_of_le lt_e b10.size
    replace q_x0 := (b10.cell (p := ⟨w5.heap.size, 0, none⟩) lt_x).trans q_x0
    replace q_x1 := (b10.cell (p := ⟨w5.heap.size, 1, none⟩) lt_x).trans q_x1
    replace lt_x : w5.heap.size < w10.heap.size := Nat.lt_of_lt_of_le lt_x b10.size
    replace o_u := own_bl o_u b10
    replace bel : Below w.heap.size w w10 := bl_to bel b10
    clear b10
    go_upto_region 16 with (fail)
    go_cut [63] (fun s' wx => s' = .bool false ∧ Below w10.heap.size w10 wx)
    case first =>
      have hn' := hn.bl bel
      have ru : RdN w10 (.slice A_u m.length c_u) m := Rd.of_own o_u
      go_region_held3 (fun w' => w'.cell? ⟨w.heap.size, 0, none⟩ = some (.string s) ∧ w'.cell? ⟨w.heap.size, 1, none⟩ = some (.slice Ae me ce) ∧ w'.cell? ⟨w5.heap.size, 0, none⟩ = some (.string s) ∧ w'.cell? ⟨w5.heap.size, 1, none⟩ = some (.slice A_u m.length c_u))
        (first | exact ⟨x0, x1, x2, x3⟩ | exact ⟨v0, v1, v2, v3⟩ | go_keep)
        (first
          | (go_at_call 24; refine (eqEntry_any s _ _ m _ (ru.bl (by (repeat' (first | (with_reducible exact Below.refl _ _) | (with_reducible refine bl_alloc ?_ _) | (with_reducible refine bl_drewN ?_ _) | (with_reducible refine bl_drew ?_) | (with_reducible assumption) | (with_reducible refine bl_to ?_ (by assumption)) | (with_reducible refine Below.trans ?_ (by assumption)) | (with_reducible refine Below.trans ?_ (Below.mono (by assumption) ?_)) | (with_reducible refine bl_set ?_ ?_ _) | (simp; done) | (simp; omega) | omega)))) (Rd.of_own oB) hml).mono ?_; rintro e wC ⟨rfl, bC⟩; have x0 := (show Below w10.heap.size w10 wC by (repeat' (first | (with_reducible exact Below.refl _ _) | (with_reducible refine bl_alloc ?_ _) | (with_reducible refine bl_drewN ?_ _) | (with_reducible refine bl_drew ?_) | (with_reducible assumption) | (with_reducible refine bl_to ?_ (by assumption)) | (with_reducible refine Below.trans ?_ (by assumption)) | (with_reducible refine Below.trans ?_ (Below.mono (by assumption) ?_)) | (with_reducible refine bl_set ?_ ?_ _) | (simp; done) | (simp; omega) | omega))).cell (p := ⟨w.heap.size, 0, none⟩) lt_e |>.trans q_e0; have x1 := (show Below w10.heap.size w10 wC by (repeat' (first | (with_reducible exact Below.refl _ _) | (with_reducible refine bl_alloc ?_ _) | (with_reducible refine bl_drewN ?_ _) | (with_reducible refine bl_drew ?_) | (with_reducible assumption) | (with_reducible refine bl_to ?_ (by assumption)) | (with_reducible refine Below.trans ?_ (by assumption)) | (with_reducible refine Below.trans ?_ (Below.mono (by assumption) ?_)) | (with_reducible refine bl_set ?_ ?_ _) | (simp; done) | (simp; omega) | omega))).cell (p := ⟨w.heap.size, 1, none⟩) lt_e |>.trans q_e1; have x2 := (show Below w10.heap.size w10 wC by (repeat' (first | (with_reducible exact Below.refl _ _) | (with_reducible refine bl_alloc ?_ _) | (with_reducible refine bl_drewN ?_ _) | (with_reducible refine bl_drew ?_) | (with_reducible assumption) | (with_reducible refine bl_to ?_ (by assumption)) | (with_reducible refine Below.trans ?_ (by assumption)) | (with_reducible refine Below.trans ?_ (Below.mono (by assumption) ?_)) | (with_reducible refine bl_set ?_ ?_ _) | (simp; done) | (simp; omega) | omega))).cell (p := ⟨w5.heap.size, 0, none⟩) lt_x |>.trans q_x0; have x3 := (show Below w10.heap.size w10 wC by (repeat' (first | (with_reducible exact Below.refl _ _) | (with_reducible refine bl_alloc ?_ _) | (with_reducible refine bl_drewN ?_ _) | (with_reducible refine bl_drew ?_) | (with_reducible assumption) | (with_reducible refine bl_to ?_ (by assumption)) | (with_reducible refine Below.trans ?_ (by assumption)) | (with_reducible refine Below.trans ?_ (Below.mono (by assumption) ?_)) | (with_reducible refine bl_set ?_ ?_ _) | (simp; done) | (simp; omega) | omega))).cell (p := ⟨w5.heap.size, 1, none⟩) lt_x |>.trans q_x1)
          | (go_at_call 22; refine (toEntry_any s _ m _ (hn'.bl (by (repeat' (first | (with_reducible exact Below.refl _ _) | (with_reducible refine bl_alloc ?_ _) | (with_reducible refine bl_drewN ?_ _) | (with_reducible refine bl_drew ?_) | (with_reducible assumption) | (with_reducible refine bl_to ?_ (by assumption)) | (with_reducible refine Below.trans ?_ (by assumption)) | (with_reducible refine Below.trans ?_ (Below.mono (by assumption) ?_)) | (with_reducible refine bl_set ?_ ?_ _) | (simp; done) | (simp; omega) | omega)))) hml).mono ?_; rintro e wB ⟨Ab, cb, rfl, oB, bB⟩; have v0 := (show Below w10.heap.size w10 wB by (repeat' (first | (with_reducible exact Below.refl _ _) | (with_reducible refine bl_alloc ?_ _) | (with_reducible refine bl_drewN ?_ _) | (with_reducible refine bl_drew ?_) | (with_reducible assumption) | (with_reducible refine bl_to ?_ (by assumption)) | (with_reducible refine Below.trans ?_ (by assumption)) | (with_reducible refine Below.trans ?_ (Below.mono (by assumption) ?_)) | (with_reducible refine bl_set ?_ ?_ _) | (simp; done) | (simp; omega) | omega))).cell (p := ⟨w.heap.size, 0, none⟩) lt_e |>.trans q_e0; have v1 := (show Below w10.heap.size w10 wB by (repeat' (first | (with_reducible exact Below.refl _ _) | (with_reducible refine bl_alloc ?_ _) | (with_reducible refine bl_drewN ?_ _) | (with_reducible refine bl_drew ?_) | (with_reducible assumption) | (with_reducible refine bl_to ?_ (by assumption)) | (with_reducible refine Below.trans ?_ (by assumption)) | (with_reducible refine Below.trans ?_ (Below.mono (by assumption) ?_)) | (with_reducible refine bl_set ?_ ?_ _) | (simp; done) | (simp; omega) | omega))).cell (p := ⟨w.heap.size, 1, none⟩) lt_e |>.trans q_e1; have v2 := (show Below w10.heap.size w10 wB by (repeat' (first | (with_reducible exact Below.refl _ _) | (with_reducible refine bl_alloc ?_ _) | (with_reducible refine bl_drewN ?_ _) | (with_reducible refine bl_drew ?_) | (with_reducible assumption) | (with_reducible refine bl_to ?_ (by assumption)) | (with_reducible refine Below.trans ?_ (by assumption)) | (with_reducible refine Below.trans ?_ (Below.mono (by assumption) ?_)) | (with_reducible refine bl_set ?_ ?_ _) | (simp; done) | (simp; omega) | omega))).cell (p := ⟨w5.heap.size, 0, none⟩) lt_x |>.trans q_x0; have v3 := (show Below w10.heap.size w10 wB by (repeat' (first | (with_reducible exact Below.refl _ _) | (with_reducible refine bl_alloc ?_ _) | (with_reducible refine bl_drewN ?_ _) | (with_reducible refine bl_drew ?_) | (with_reducible assumption) | (with_reducible refine bl_to ?_ (by assumption)) | (with_reducible refine Below.trans ?_ (by assumption)) | (with_reducible refine Below.trans ?_ (Below.mono (by assumption) ?_)) | (with_reducible refine bl_set ?_ ?_ _) | (simp; done) | (simp; omega) | omega))).cell (p := ⟨w5.heap.size, 1, none⟩) lt_x |>.trans q_x1))
      all_goals (go_wp2; go_meet; exact ⟨rfl, by (repeat' (first | (with_reducible exact Below.refl _ _) | (with_reducible refine bl_alloc ?_ _) | (with_reducible refine bl_drewN ?_ _) | (with_reducible refine bl_drew ?_) | (with_reducible assumption) | (with_reducible refine bl_to ?_ (by assumption)) | (with_reducible refine Below.trans ?_ (by assumption)) | (with_reducible refine Below.trans ?_ (Below.mono (by assumption) ?_)) | (with_reducible refine bl_set ?_ ?_ _) | (simp; done) | (simp; omega) | omega))⟩)
    case rest =>
      obtain ⟨rfl, b11⟩ := hcut
      obtain ⟨w11, rfl⟩ : ∃ x : World, x = wc := ⟨_, rfl⟩
      have s11 : w10.heap.size ≤ w11.heap.size := b11.size
      replace o_s := o_s.bl b11
      replace o_x := o_x.bl b11
      replace o_g := o_g.bl b11
      replace q_e0 := (b11.cell (p := ⟨w.heap.size, 0, none⟩) lt_e).trans q_e0
      replace q_e1 := (b11.cell (p := ⟨w.heap.size, 1, none⟩) lt_e).trans q_e1
      replace lt_e : w.heap.size < w11.heap.size := Nat.lt_of_lt_of_le lt_e b11.size
      replace q_x0 := (b11.cell (p := ⟨w5.heap.size, 0, none⟩) lt_x).trans q_x0
      replace q_x1 := (b11.cell (p := ⟨w5.heap.size, 1, none⟩) lt_x).trans q_x1
      replace lt_x : w5.heap.size < w11.heap.size := Nat.lt_of_lt_of_le lt_x b11.size
      replace o_u := own_bl o_u b11
      replace bel : Below w.heap.size w w11 := bl_to bel b11
      clear b11
      go_wp2_with fail
      refine (MX.out _ _ _ _ o_x (by omega)).mono ?_
      rintro e w12 ⟨rfl, om, p12⟩
      have s12 : w11.heap.size ≤ w12.heap.size := p12.size
      replace o_s := o_s.apart p12 (by omega)
      replace o_g := o_g.apart p12 (by omega)
      replace q_e0 := (p12.cell lt_e (by omega) 0).trans q_e0
      replace q_e1 := (p12.cell lt_e (by omega) 1).trans q_e1
      replace lt_e : w.heap.size < w12.heap.size := Nat.lt_of_lt_of_le lt_e p12.size
      replace q_x0 := (p12.cell lt_x (by omega) 0).trans q_x0
      replace q_x1 := (p12.cell lt_x (by omega) 1).trans q_x1
      replace lt_x : w5.heap.size < w12.heap.size := Nat.lt_of_lt_of_le lt_x p12.size
      replace o_x := om
      replace o_u := own_same o_u fun b e => p12.block b (o_u.lt b e).2 (by have := hu.out b e; omega)
      replace bel : Below w.heap.size w w12 := bl_apart bel p12 (by omega)
      clear p12 om
      go_wp2_with fail
      refine (markEntry_any _ s _ m _ _ o_u hml (by omega) (by omega) _ _ hu.out).mono ?_
      rintro e w13 ⟨rfl, p13⟩
      have s13 : w12.heap.size ≤ w13.heap.size := p13.size
      replace o_s := o_s.apart p13 (by omega)
      replace o_g := o_g.apart p13 (by omega)
      replace q_e0 := (p13.cell lt_e (by omega) 0).trans q_e0
      replace q_e1 := (p13.cell lt_e (by omega) 1).trans q_e1
      replace lt_e : w.heap.size < w13.heap.size := Nat.lt_of_lt_of_le lt_e p13.size
      replace q_x0 := (p13.cell lt_x (by omega) 0).trans q_x0
      replace q_x1 := (p13.cell lt_x (by omega) 1).trans q_x1
      replace lt_x : w5.heap.size < w13.heap.size := Nat.lt_of_lt_of_le lt_x p13.size
      replace bel : Below w.heap.size w w13 := bl_apart bel p13 (by omega)
      clear p13
      go_wp2_with fail
      refine (eqEntryS_any _ _ L _ o_g.rd o_s.rd hLL).mono ?_
      rintro e w14 ⟨rfl, b14⟩
      have s14 : w13.heap.size ≤ w14.heap.size := b14.size
      replace o_s := o_s.bl b14
      replace o_g := o_g.bl b14
      replace q_e0 := (b14.cell (p := ⟨w.heap.size, 0, none⟩) lt_e).trans q_e0
      replace q_e1 := (b14.cell (p := ⟨w.heap.size, 1, none⟩) lt_e).trans q_e1
      replace lt_e : w.heap.size < w14.heap.size := Nat.lt_of_lt_of_le lt_e b14.size
      replace q_x0 := (b14.cell (p := ⟨w5.heap.size, 0, none⟩) lt_x).trans q_x0
      replace q_x1 := (b14.cell (p := ⟨w5.heap.size, 1, none⟩) lt_x).trans q_x1
      replace lt_x : w5.heap.size < w14.heap.size := Nat.lt_of_lt_of_le lt_x b14.size
      replace bel : Below w.heap.size w w14 := bl_to bel b14
      clear b14
      go_wp2_with fail
      refine (MG.out _ _ _ _ o_g (by omega)).mono ?_
      rintro e w15 ⟨rfl, om, p15⟩
      have s15 : w14.heap.size ≤ w15.heap.size := p15.size
      replace o_s := o_s.apart p15 (by omega)
      replace q_e0 := (p15.cell lt_e (by omega) 0).trans q_e0
      replace q_e1 := (p15.cell lt_e (by omega) 1).trans q_e1
      replace lt_e : w.heap.size < w15.heap.size := Nat.lt_of_lt_of_le lt_e p15.size
      replace q_x0 := (p15.cell lt_x (by omega) 0).trans q_x0
      replace q_x1 := (p15.cell lt_x (by omega) 1).trans q_x1
      replace lt_x : w5.heap.size < w15.heap.size := Nat.lt_of_lt_of_le lt_x p15.size
      replace o_g := om
      replace bel : Below w.heap.size w w15 := bl_apart bel p15 (by omega)
      clear p15 om
      go_wp2_with fail
      refine (HG.out _ _ o_g.rd).mono ?_
      rintro e w16 ⟨rfl, b16⟩
      have s16 : w15.heap.size ≤ w16.heap.size := b16.size
      replace o_s := o_s.bl b16
      replace o_g := o_g.bl b16
      replace q_e0 := (b16.cell (p := ⟨w.heap.size, 0, none⟩) lt_e).trans q_e0
      replace q_e1 := (b16.cell (p := ⟨w.heap.size, 1, none⟩) lt_e).trans q_e1
      replace lt_e : w.heap.size < w16.heap.size := Nat.lt_of_lt_of_le lt_e b16.size
      replace q_x0 := (b16.cell (p := ⟨w5.heap.size, 0, none⟩) lt_x).trans q_x0
      replace q_x1 := (b16.cell (p := ⟨w5.heap.size, 1, none⟩) lt_x).trans q_x1
      replace lt_x : w5.heap.size < w16.heap.size := Nat.lt_of_lt_of_le lt_x b16.size
      replace bel : Below w.heap.size w w16 := bl_to bel b16
      clear b16
      go_upto_region 31 with (fail)
      go_cut [15, 16] (fun q u wx => ∃ A c, q = .slice A L.length c ∧ u = .bool Q ∧ OwnE w16.heap.size wx.heap.size wx (.slice A L.length c) L ∧ Below w16.heap.size w16 wx)
      case first =>
        have hr' := hr.bl bel
        have hn' := hn.bl bel
        go_region_held3 (fun w' => w'.cell? ⟨w.heap.size, 0, none⟩ = some (.string s) ∧ w'.cell? ⟨w.heap.size, 1, none⟩ = some (.slice Ae me ce))
          (first | exact ⟨x0, x1⟩ | exact ⟨v0, v1⟩ | exact ⟨u0, u1⟩ | go_keep)
          (first
            | (go_at_call 23; refine (CI.out _ _ _ rA rB).mono ?_; rintro e wC ⟨A4, c4, rfl, o4, b4⟩; have x0 := (show Below w16.heap.size w16 wC by (repeat' (first | (with_reducible exact Below.refl _ _) | (with_reducible refine bl_alloc ?_ _) | (with_reducible refine bl_drewN ?_ _) | (with_reducible refine bl_drew ?_) | (with_reducible assumption) | (with_reducible refine bl_to ?_ (by assumption)) | (with_reducible refine Below.trans ?_ (by assumption)) | (with_reducible refine Below.trans ?_ (Below.mono (by assumption) ?_)) | (with_reducible refine bl_set ?_ ?_ _) | (simp; done) | (simp; omega) | omega))).cell (p := ⟨w.heap.size, 0, none⟩) lt_e |>.trans q_e0; have x1 := (show Below w16.heap.size w16 wC by (repeat' (first | (with_reducible exact Below.refl _ _) | (with_reducible refine bl_alloc ?_ _) | (with_reducible refine bl_drewN ?_ _) | (with_reducible refine bl_drew ?_) | (with_reducible assumption) | (with_reducible refine bl_to ?_ (by assumption)) | (with_reducible refine Below.trans ?_ (by assumption)) | (with_reducible refine Below.trans ?_ (Below.mono (by assumption) ?_)) | (with_reducible refine bl_set ?_ ?_ _) | (simp; done) | (simp; omega) | omega))).cell (p := ⟨w.heap.size, 1, none⟩) lt_e |>.trans q_e1)
            | (have tok := bB; go_at_call 11; refine (toEntryS_any v l _ (hr'.bl (by (repeat' (first | (with_reducible exact Below.refl _ _) | (with_reducible refine bl_alloc ?_ _) | (with_reducible refine bl_drewN ?_ _) | (with_reducible refine bl_drew ?_) | (with_reducible assumption) | (with_reducible refine bl_to ?_ (by assumption)) | (with_reducible refine Below.trans ?_ (by assumption)) | (with_reducible refine Below.trans ?_ (Below.mono (by assumption) ?_)) | (with_reducible refine bl_set ?_ ?_ _) | (simp; done) | (simp; omega) | omega)))) (by omega)).mono ?_; rintro e wA ⟨Aa, ca, rfl, oA, bA⟩; have rA := oA.rd; have rB := rB.bl bA; have u0 := (show Below w16.heap.size w16 wA by (repeat' (first | (with_reducible exact Below.refl _ _) | (with_reducible refine bl_alloc ?_ _) | (with_reducible refine bl_drewN ?_ _) | (with_reducible refine bl_drew ?_) | (with_reducible assumption) | (with_reducible refine bl_to ?_ (by assumption)) | (with_reducible refine Below.trans ?_ (by assumption)) | (with_reducible refine Below.trans ?_ (Below.mono (by assumption) ?_)) | (with_reducible refine bl_set ?_ ?_ _) | (simp; done) | (simp; omega) | omega))).cell (p := ⟨w.heap.size, 0, none⟩) lt_e |>.trans q_e0; have u1 := (show Below w16.heap.size w16 wA by (repeat' (first | (with_reducible exact Below.refl _ _) | (with_reducible refine bl_alloc ?_ _) | (with_reducible refine bl_drewN ?_ _) | (with_reducible refine bl_drew ?_) | (with_reducible assumption) | (with_reducible refine bl_to ?_ (by assumption)) | (with_reducible refine Below.trans ?_ (by assumption)) | (with_reducible refine Below.trans ?_ (Below.mono (by assumption) ?_)) | (with_reducible refine bl_set ?_ ?_ _) | (simp; done) | (simp; omega) | omega))).cell (p := ⟨w.heap.size, 1, none⟩) lt_e |>.trans q_e1; clear tok)
            | (go_at_call 11; refine (toEntryS_any v l _ (hr'.bl (by (repeat' (first | (with_reducible exact Below.refl _ _) | (with_reducible refine bl_alloc ?_ _) | (with_reducible refine bl_drewN ?_ _) | (with_reducible refine bl_drew ?_) | (with_reducible assumption) | (with_reducible refine bl_to ?_ (by assumption)) | (with_reducible refine Below.trans ?_ (by assumption)) | (with_reducible refine Below.trans ?_ (Below.mono (by assumption) ?_)) | (with_reducible refine bl_set ?_ ?_ _) | (simp; done) | (simp; omega) | omega)))) (by omega)).mono ?_; rintro e wA ⟨Aa, ca, rfl, oA, bA⟩; have rA := oA.rd; have u0 := (show Below w16.heap.size w16 wA by (repeat' (first | (with_reducible exact Below.refl _ _) | (with_reducible refine bl_alloc ?_ _) | (with_reducible refine bl_drewN ?_ _) | (with_reducible refine bl_drew ?_) | (with_reducible assumption) | (with_reducible refine bl_to ?_ (by assumption)) | (with_reducible refine Below.trans ?_ (by assumption)) | (with_reducible refine Below.trans ?_ (Below.mono (by assumption) ?_)) | (with_reducible refine bl_set ?_ ?_ _) | (simp; done) | (simp; omega) | omega))).cell (p := ⟨w.heap.size, 0, none⟩) lt_e |>.trans q_e0; have u1 := (show Below w16.heap.size w16 wA by (repeat' (first | (with_reducible exact Below.refl _ _) | (with_reducible refine bl_alloc ?_ _) | (with_reducible refine bl_drewN ?_ _) | (with_reducible refine bl_drew ?_) | (with_reducible assumption) | (with_reducible refine bl_to ?_ (by assumption)) | (with_reducible refine Below.trans ?_ (by assumption)) | (with_reducible refine Below.trans ?_ (Below.mono (by assumption) ?_)) | (with_reducible refine bl_set ?_ ?_ _) | (simp; done) | (simp; omega) | omega))).cell (p := ⟨w.heap.size, 1, none⟩) lt_e |>.trans q_e1)
            | (have tok := bA; go_at_call 22; refine (toEntry_any s _ m _ (hn'.bl (by (repeat' (first | (with_reducible exact Below.refl _ _) | (with_reducible refine bl_alloc ?_ _) | (with_reducible refine bl_drewN ?_ _) | (with_reducible refine bl_drew ?_) | (with_reducible assumption) | (with_reducible refine bl_to ?_ (by assumption)) | (with_reducible refine Below.trans ?_ (by assumption)) | (with_reducible refine Below.trans ?_ (Below.mono (by assumption) ?_)) | (with_reducible refine bl_set ?_ ?_ _) | (simp; done) | (simp; omega) | omega)))) hml).mono ?_; rintro e wB ⟨Ab, cb, rfl, oB, bB⟩; have rB : RdN wB (.slice Ab m.length cb) m := Rd.of_own oB; have rA := rA.bl bB; have v0 := (show Below w16.heap.size w16 wB by (repeat' (first | (with_reducible exact Below.refl _ _) | (with_reducible refine bl_alloc ?_ _) | (with_reducible refine bl_drewN ?_ _) | (with_reducible refine bl_drew ?_) | (with_reducible assumption) | (with_reducible refine bl_to ?_ (by assumption)) | (with_reducible refine Below.trans ?_ (by assumption)) | (with_reducible refine Below.trans ?_ (Below.mono (by assumption) ?_)) | (with_reducible refine bl_set ?_ ?_ _) | (simp; done) | (simp; omega) | omega))).cell (p := ⟨w.heap.size, 0, none⟩) lt_e |>.trans q_e0; have v1 := (show Below w16.heap.size w16 wB by (repeat' (first | (with_reducible exact Below.refl _ _) | (with_reducible refine bl_alloc ?_ _) | (with_reducible refine bl_drewN ?_ _) | (with_reducible refine bl_drew ?_) | (with_reducible assumption) | (with_reducible refine bl_to ?_ (by assumption)) | (with_reducible refine Below.trans ?_ (by assumption)) | (with_reducible refine Below.trans ?_ (Below.mono (by assumption) ?_)) | (with_reducible refine bl_set ?_ ?_ _) | (simp; done) | (simp; omega) | omega))).cell (p := ⟨w.heap.size, 1, none⟩) lt_e |>.trans q_e1; clear tok)
            | (go_at_call 22; refine (toEntry_any s _ m _ (hn'.bl (by (repeat' (first | (with_reducible exact Below.refl _ _) | (with_reducible refine bl_alloc ?_ _) | (with_reducible refine bl_drewN ?_ _) | (with_reducible refine bl_drew ?_) | (with_reducible assumption) | (with_reducible refine bl_to ?_ (by assumption)) | (with_reducible refine Below.trans ?_ (by assumption)) | (with_reducible refine Below.trans ?_ (Below.mono (by assumption) ?_)) | (with_reducible refine bl_set ?_ ?_ _) | (simp; done) | (simp; omega) | omega)))) hml).mono ?_; rintro e wB ⟨Ab, cb, rfl, oB, bB⟩; have rB : RdN wB (.slice Ab m.length cb) m := Rd.of_own oB; have v0 := (show Below w16.heap.size w16 wB by (repeat' (first | (with_reducible exact Below.refl _ _) | (with_reducible refine bl_alloc ?_ _) | (with_reducible refine bl_drewN ?_ _) | (with_reducible refine bl_drew ?_) | (with_reducible assumption) | (with_reducible refine bl_to ?_ (by assumption)) | (with_reducible refine Below.trans ?_ (by assumption)) | (with_reducible refine Below.trans ?_ (Below.mono (by assumption) ?_)) | (with_reducible refine bl_set ?_ ?_ _) | (simp; done) | (simp; omega) | omega))).cell (p := ⟨w.heap.size, 0, none⟩) lt_e |>.trans q_e0; have v1 := (show Below w16.heap.size w16 wB by (repeat' (first | (with_reducible exact Below.refl _ _) | (with_reducible refine bl_alloc ?_ _) | (with_reducible refine bl_drewN ?_ _) | (with_reducible refine bl_drew ?_) | (with_reducible assumption) | (with_reducible refine bl_to ?_ (by assumption)) | (with_reducible refine Below.trans ?_ (by assumption)) | (with_reducible refine Below.trans ?_ (Below.mono (by assumption) ?_)) | (with_reducible refine bl_set ?_ ?_ _) | (simp; done) | (simp; omega) | omega))).cell (p := ⟨w.heap.size, 1, none⟩) lt_e |>.trans q_e1))
        all_goals (have z4 : w16.heap.size ≤ _ := (show Below w16.heap.size w16 wC by (repeat' (first | (with_reducible exact Below.refl _ _) | (with_reducible refine bl_alloc ?_ _) | (with_reducible refine bl_drewN ?_ _) | (with_reducible refine bl_drew ?_) | (with_reducible assumption) | (with_reducible refine bl_to ?_ (by assumption)) | (with_reducible refine Below.trans ?_ (by assumption)) | (with_reducible refine Below.trans ?_ (Below.mono (by assumption) ?_)) | (with_reducible refine bl_set ?_ ?_ _) | (simp; done) | (simp; omega) | omega))).size; have zA := bA.size; have zB := bB.size; (try simp at zA zB); go_wp2; go_meet; exact ⟨A4, c4, rfl, rfl, o4.mono (by first | omega | (simp; omega)) (Nat.le_refl _), by (repeat' (first | (with_reducible exact Below.refl _ _) | (with_reducible refine bl_alloc ?_ _) | (with_reducible refine bl_drewN ?_ _) | (with_reducible refine bl_drew ?_) | (with_reducible assumption) | (with_reducible refine bl_to ?_ (by assumption)) | (with_reducible refine Below.trans ?_ (by assumption)) | (with_reducible refine Below.trans ?_ (Below.mono (by assumption) ?_)) | (with_reducible refine bl_set ?_ ?_ _) | (simp; done) | (simp; omega) | omega))⟩)
      case rest =>
        obtain ⟨A_h, c_h, rfl, rfl, o_h, b17⟩ := hcut
        obtain ⟨w17, rfl⟩ : ∃ x : World, x = wc := ⟨_, rfl⟩
        have s17 : w16.heap.size ≤ w17.heap.size := b17.size
        replace o_s := o_s.bl b17
        replace o_g := o_g.bl b17
        replace q_e0 := (b17.cell (p := ⟨w.heap.size, 0, none⟩) lt_e).trans q_e0
        replace q_e1 := (b17.cell (p := ⟨w.heap.size, 1, none⟩) lt_e).trans q_e1
        replace lt_e : w.heap.size < w17.heap.size := Nat.lt_of_lt_of_le lt_e b17.size
        replace q_x0 := (b17.cell (p := ⟨w5.heap.size, 0, none⟩) lt_x).trans q_x0
        replace q_x1 := (b17.cell (p := ⟨w5.heap.size, 1, none⟩) lt_x).trans q_x1
        replace lt_x : w5.heap.size < w17.heap.size := Nat.lt_of_lt_of_le lt_x b17.size
        replace bel : Below w.heap.size w w17 := bl_to bel b17
        clear b17
        go_wp2_with fail
        refine (eqEntryS_any _ _ L _ o_h.rd o_s.rd hLL).mono ?_
        rintro e w18 ⟨rfl, b18⟩
        have s18 : w17.heap.size ≤ w18.heap.size := b18.size
        replace o_s := o_s.bl b18
        replace o_g := o_g.bl b18
        replace o_h := o_h.bl b18
        replace q_e0 := (b18.cell (p := ⟨w.heap.size, 0, none⟩) lt_e).trans q_e0
        replace q_e1 := (b18.cell (p := ⟨w.heap.size, 1, none⟩) lt_e).trans q_e1
        replace lt_e : w.heap.size < w18.heap.size := Nat.lt_of_lt_of_le lt_e b18.size
        replace q_x0 := (b18.cell (p := ⟨w5.heap.size, 0, none⟩) lt_x).trans q_x0
        replace q_x1 := (b18.cell (p := ⟨w5.heap.size, 1, none⟩) lt_x).trans q_x1
        replace lt_x : w5.heap.size < w18.heap.size := Nat.lt_of_lt_of_le lt_x b18.size
        replace bel : Below w.heap.size w w18 := bl_to bel b18
        clear b18
        go_wp2_with fail
        refine (HG.out _ _ o_g.rd).mono ?_
        rintro e w19 ⟨rfl, b19⟩
        have s19 : w18.heap.size ≤ w19.heap.size := b19.size
        replace o_s := o_s.bl b19
        replace o_g := o_g.bl b19
        replace o_h := o_h.bl b19
        replace q_e0 := (b19.cell (p := ⟨w.heap.size, 0, none⟩) lt_e).trans q_e0
        replace q_e1 := (b19.cell (p := ⟨w.heap.size, 1, none⟩) lt_e).trans q_e1
        replace lt_e : w.heap.size < w19.heap.size := Nat.lt_of_lt_of_le lt_e b19.size
        replace q_x0 := (b19.cell (p := ⟨w5.heap.size, 0, none⟩) lt_x).trans q_x0
        replace q_x1 := (b19.cell (p := ⟨w5.heap.size, 1, none⟩) lt_x).trans q_x1
        replace lt_x : w5.heap.size < w19.heap.size := Nat.lt_of_lt_of_le lt_x b19.size
        replace bel : Below w.heap.size w w19 := bl_to bel b19
        clear b19
        go_wp2
        go_ret
        exact ⟨rfl, bel⟩
end Go.Proofs.Ytighmoedkknkoaa
