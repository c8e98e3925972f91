/- The document's JChange: one key that is taken becomes another one. -/
import Derived.Test.YtokpodmefnmmcaaKeys
namespace Go.Proofs.Ytokpodmefnmmcaa
open Go.RowKit
attribute [local go_sem] Key4.v

set_option maxHeartbeats 4000000 in
theorem jfree_any (K : Key4) (k : Int) (w : World) :
    Calls Try.prog 23 #[K.v, .int .i64 k, .int .i64 1, .agg #[.bool false, .int .i64 0]] w fun e w' => e = .returned (.tuple #[(chg4 K k 1 false 0).v, .int .i64 (chg4E K k 1 0)]) ∧ Below w.heap.size w w' := by
  obtain ⟨t0, d0, t1, d1, t2, d2, t3, d3⟩ := K
  simp only [Key4.v]
  by_cases hk : k < 0 ∨ 4 ≤ k
  · have ho := hk
    rcases hk with hk | hk
    all_goals
      go_enter Try.func23, Try.ntmps23
      go_wp2
      go_rounds 5
      all_goals go_returns
      all_goals (refine ⟨?_, by go_grown⟩; simp [chg4, chg4E_out ho, zero4])
  · have hk' : k = 0 ∨ k = 1 ∨ k = 2 ∨ k = 3 := by omega
    clear hk
    rcases hk' with rfl | rfl | rfl | rfl
    all_goals
      go_enter Try.func23, Try.ntmps23
      go_wp2
      go_rounds 5
      all_goals go_returns
      all_goals (try simp only [Bool.not_eq_true', Bool.not_eq_false'] at *)
      all_goals (subst_vars; refine ⟨?_, by go_grown⟩; simp [chg4, chg4E, Key4.tk, Key4.set, zero4])

set_option maxHeartbeats 4000000 in
theorem jset_any (K : Key4) (k d : Int) (w : World) :
    Calls Try.prog 23 #[K.v, .int .i64 k, .int .i64 0, .agg #[.bool true, .int .i64 d]] w fun e w' => e = .returned (.tuple #[(chg4 K k 0 true d).v, .int .i64 (chg4E K k 0 d)]) ∧ Below w.heap.size w w' := by
  obtain ⟨t0, d0, t1, d1, t2, d2, t3, d3⟩ := K
  simp only [Key4.v]
  by_cases hk : k < 0 ∨ 4 ≤ k
  · have ho := hk
    rcases hk with hk | hk
    all_goals
      go_enter Try.func23, Try.ntmps23
      go_wp2
      go_rounds 5
      all_goals go_returns
      all_goals (refine ⟨?_, by go_grown⟩; simp [chg4, chg4E_out ho, zero4])
  · have hk' : k = 0 ∨ k = 1 ∨ k = 2 ∨ k = 3 := by omega
    clear hk
    rcases hk' with rfl | rfl | rfl | rfl
    all_goals
      go_enter Try.func23, Try.ntmps23
      go_wp2
      go_rounds 5
      all_goals go_returns
      all_goals (try simp only [Bool.not_eq_true', Bool.not_eq_false'] at *)
      all_goals (subst_vars; refine ⟨?_, by go_grown⟩; first | (simp [chg4, chg4E, Key4.tk, Key4.set, zero4]; done) | (have hx : d < 0 ∨ 3 < d := (by omega); simp [chg4, chg4E, Key4.tk, zero4, hx]; done) | (have hx : ¬ (d < 0 ∨ 3 < d) := (by omega); simp [chg4, chg4E, Key4.tk, Key4.set, hx]; done))

end Go.Proofs.Ytokpodmefnmmcaa
