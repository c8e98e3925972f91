/- ram.Frame: what it answers. -/
import Derived.Test.YtidfngplhjegpaaRamG
namespace Go.Proofs.Ytidfngplhjegpaa
open Go.RowKit
def frameF (n : Int) : Int := if n < 0 ∨ 64 ≤ n then -1 else n * 64
theorem frame_any (n : Int) (w : World) : Calls Try.prog 19 #[.int .i64 n] w fun e w' => e = .returned (.int .i64 (frameF n)) ∧ w' = w := by
  by_cases h : n < 0 ∨ 64 ≤ n
  · have e : frameF n = -1 := by unfold frameF; rw [if_pos h]
    rw [e]
    clear e
    rcases h with h | h
    · go_enter Try.func19, Try.ntmps19
      go_wp2
      all_goals go_ret
      all_goals exact ⟨rfl, rfl⟩
    · go_enter Try.func19, Try.ntmps19
      go_wp2
      all_goals go_ret
      all_goals exact ⟨rfl, rfl⟩
  · have e : frameF n = n * 64 := by unfold frameF; rw [if_neg h]
    rw [e]
    clear e
    have h0 : 0 ≤ n := by omega
    have h1 : n < 64 := by omega
    clear h
    go_enter Try.func19, Try.ntmps19
    go_wp2
    go_ret
    exact ⟨rfl, rfl⟩
end Go.Proofs.Ytidfngplhjegpaa
