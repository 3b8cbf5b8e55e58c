/- AirAfter: the program's and the reference's return one number; no condition. -/
import Derived.Test.YtbcmidencifcoaaBase
import Derived.BigQuiet
namespace Go.Proofs.Ytbcmidencifcoaa
open Go.RowKit

def airF (a r p n : Int) : Int := if inB a 0 r && inB r 1 1000 && inB p 0 100 && inB n 0 24 then max 0 (min (a + p) r - 3 * n) else -1

set_option maxHeartbeats 400000 in
theorem airI_any (a r p n : Int) (w : World) : Calls Try.prog 37 #[.int .i64 a, .int .i64 r, .int .i64 p, .int .i64 n] w fun e w' => e = .returned (.int .i64 (airF a r p n)) ∧ w = w' := by
  cases h1 : inB a 0 r
  rotate_left
  cases h2 : inB r 1 1000
  rotate_left
  cases h3 : inB p 0 100
  rotate_left
  cases h4 : inB n 0 24
  rotate_left
  obtain ⟨b1a, b1b⟩ := inB_iff.1 h1
  obtain ⟨b2a, b2b⟩ := inB_iff.1 h2
  obtain ⟨b3a, b3b⟩ := inB_iff.1 h3
  obtain ⟨b4a, b4b⟩ := inB_iff.1 h4
  all_goals
    go_enter Try.func37, Try.ntmps37
    go_wp2_with (go_at_call 57; refine (within_any _ _ _ _).mono ?_; rintro e w' ⟨rfl, rfl⟩)
    all_goals
      go_ret
      exact ⟨ret_int (by simp [airF, *]; try omega), rfl⟩
end Go.Proofs.Ytbcmidencifcoaa
