/- keys.First, New, Free, Set and the document's JNew, JChange: what they answer. -/
import Derived.Test.YtokpodmefnmmcaaBase
namespace Go.Proofs.Ytokpodmefnmmcaa
open Go.RowKit

/-- Four keys: taken, and what each denies. -/
structure Key4 where
  t0 : Bool
  d0 : Int
  t1 : Bool
  d1 : Int
  t2 : Bool
  d2 : Int
  t3 : Bool
  d3 : Int
abbrev Key4.v (K : Key4) : Value := .agg #[.bool K.t0, .int .i64 K.d0, .bool K.t1, .int .i64 K.d1, .bool K.t2, .int .i64 K.d2, .bool K.t3, .int .i64 K.d3]
attribute [local go_sem] Key4.v
def zero4 : Key4 := ⟨false, 0, false, 0, false, 0, false, 0⟩
def Key4.tk (K : Key4) (k : Int) : Bool := if k = 0 then K.t0 else if k = 1 then K.t1 else if k = 2 then K.t2 else if k = 3 then K.t3 else false
def Key4.set (K : Key4) (k : Int) (t : Bool) (d : Int) : Key4 :=
  if k = 0 then { K with t0 := t, d0 := d } else if k = 1 then { K with t1 := t, d1 := d } else if k = 2 then { K with t2 := t, d2 := d } else if k = 3 then { K with t3 := t, d3 := d } else K
/-- The least key that is not taken (4: none). -/
def Key4.free (K : Key4) : Int := if K.t0 = false then 0 else if K.t1 = false then 1 else if K.t2 = false then 2 else if K.t3 = false then 3 else 4
def new4 (K : Key4) : Key4 := if K.free = 4 then zero4 else K.set K.free true 0
def new4K (K : Key4) : Int := if K.free = 4 then 0 else K.free
def new4E (K : Key4) : Int := if K.free = 4 then 4 else 0
def chg4E (K : Key4) (k least d : Int) : Int := if least ≤ k ∧ K.tk k = true then (if d < 0 ∨ 3 < d then 2 else 0) else 3
def chg4 (K : Key4) (k least : Int) (t : Bool) (d : Int) : Key4 := if chg4E K k least d = 0 then K.set k t d else zero4

theorem index0 (t0 t1 t2 t3 : Bool) (d0 d1 d2 d3 : Int) (w : World) : (Instr.index 33 (.agg #[.bool t0, .int .i64 d0, .bool t1, .int .i64 d1, .bool t2, .int .i64 d2, .bool t3, .int .i64 d3]) (.int .i64 0)).run Try.prog w = .ok (.agg #[.bool t0, .int .i64 d0]) w := by kernel_rfl
theorem index1 (t0 t1 t2 t3 : Bool) (d0 d1 d2 d3 : Int) (w : World) : (Instr.index 33 (.agg #[.bool t0, .int .i64 d0, .bool t1, .int .i64 d1, .bool t2, .int .i64 d2, .bool t3, .int .i64 d3]) (.int .i64 1)).run Try.prog w = .ok (.agg #[.bool t1, .int .i64 d1]) w := by kernel_rfl
theorem index2 (t0 t1 t2 t3 : Bool) (d0 d1 d2 d3 : Int) (w : World) : (Instr.index 33 (.agg #[.bool t0, .int .i64 d0, .bool t1, .int .i64 d1, .bool t2, .int .i64 d2, .bool t3, .int .i64 d3]) (.int .i64 2)).run Try.prog w = .ok (.agg #[.bool t2, .int .i64 d2]) w := by kernel_rfl
theorem index3 (t0 t1 t2 t3 : Bool) (d0 d1 d2 d3 : Int) (w : World) : (Instr.index 33 (.agg #[.bool t0, .int .i64 d0, .bool t1, .int .i64 d1, .bool t2, .int .i64 d2, .bool t3, .int .i64 d3]) (.int .i64 3)).run Try.prog w = .ok (.agg #[.bool t3, .int .i64 d3]) w := by kernel_rfl

set_option maxHeartbeats 4000000 in
theorem keysNew_any (K : Key4) (w : World) :
    Calls Try.prog 20 #[K.v] w fun e w' => e = .returned (.tuple #[(new4 K).v, .int .i64 (new4K K), .int .i64 (new4E K)]) ∧ Below w.heap.size w w' := by
  obtain ⟨t0, d0, t1, d1, t2, d2, t3, d3⟩ := K
  have i0 := fun w => index0 t0 t1 t2 t3 d0 d1 d2 d3 w
  have i1 := fun w => index1 t0 t1 t2 t3 d0 d1 d2 d3 w
  have i2 := fun w => index2 t0 t1 t2 t3 d0 d1 d2 d3 w
  have i3 := fun w => index3 t0 t1 t2 t3 d0 d1 d2 d3 w
  simp only [Key4.v]
  go_enter Try.func20, Try.ntmps20
  go_wp2
  go_rounds 5
  all_goals go_returns
  all_goals (try simp only [Bool.not_eq_true', Bool.not_eq_false'] at *)
  all_goals (subst_vars; refine ⟨?_, by go_grown⟩; simp [new4, new4K, new4E, Key4.free, Key4.set, zero4])

set_option maxHeartbeats 4000000 in
theorem jnew_any (K : Key4) (w : World) :
    Calls Try.prog 21 #[K.v] w fun e w' => e = .returned (.tuple #[(new4 K).v, .int .i64 (new4K K), .int .i64 (new4E K)]) ∧ Below w.heap.size w w' := by
  obtain ⟨t0, d0, t1, d1, t2, d2, t3, d3⟩ := K
  simp only [Key4.v]
  go_enter Try.func21, Try.ntmps21
  go_wp2
  go_rounds 5
  all_goals go_returns
  all_goals (try simp only [Bool.not_eq_true', Bool.not_eq_false'] at *)
  all_goals (subst_vars; refine ⟨?_, by go_grown⟩; simp [new4, new4K, new4E, Key4.free, Key4.set, zero4])

theorem chg4E_out {K : Key4} {k least d : Int} (h : k < 0 ∨ 4 ≤ k) : chg4E K k least d = 3 := by
  unfold chg4E Key4.tk
  rw [if_neg]
  rintro ⟨_, h2⟩
  rw [if_neg (by omega), if_neg (by omega), if_neg (by omega), if_neg (by omega)] at h2
  cases h2

set_option maxHeartbeats 4000000 in
theorem keysFree_any (K : Key4) (k : Int) (w : World) :
    Calls Try.prog 22 #[K.v, .int .i64 k] w fun e w' => e = .returned (.tuple #[(chg4 K k 1 false 0).v, .int .i64 (chg4E K k 1 0)]) ∧ Below w.heap.size w w' := by
  obtain ⟨t0, d0, t1, d1, t2, d2, t3, d3⟩ := K
  simp only [Key4.v]
  by_cases hk : k < 0 ∨ 4 ≤ k
  · have ho := hk
    rcases hk with hk | hk
    all_goals
      go_enter Try.func22, Try.ntmps22
      go_wp2
      all_goals go_returns
      all_goals (refine ⟨?_, by go_grown⟩; simp [chg4, chg4E_out ho, zero4])
  · have hk' : k = 0 ∨ k = 1 ∨ k = 2 ∨ k = 3 := by omega
    clear hk
    rcases hk' with rfl | rfl | rfl | rfl
    all_goals
      go_enter Try.func22, Try.ntmps22
      go_wp2
      all_goals go_returns
      all_goals (try simp only [Bool.not_eq_true', Bool.not_eq_false'] at *)
      all_goals (subst_vars; refine ⟨?_, by go_grown⟩; simp [chg4, chg4E, Key4.tk, Key4.set, zero4])

set_option maxHeartbeats 4000000 in
theorem keysSet_any (K : Key4) (k d : Int) (w : World) :
    Calls Try.prog 24 #[K.v, .int .i64 k, .int .i64 d] w fun e w' => e = .returned (.tuple #[(chg4 K k 0 true d).v, .int .i64 (chg4E K k 0 d)]) ∧ Below w.heap.size w w' := by
  obtain ⟨t0, d0, t1, d1, t2, d2, t3, d3⟩ := K
  simp only [Key4.v]
  by_cases hk : k < 0 ∨ 4 ≤ k
  · have ho := hk
    rcases hk with hk | hk
    all_goals
      go_enter Try.func24, Try.ntmps24
      go_wp2
      all_goals go_returns
      all_goals (refine ⟨?_, by go_grown⟩; simp [chg4, chg4E_out ho, zero4])
  · have hk' : k = 0 ∨ k = 1 ∨ k = 2 ∨ k = 3 := by omega
    clear hk
    rcases hk' with rfl | rfl | rfl | rfl
    all_goals
      go_enter Try.func24, Try.ntmps24
      go_wp2
      all_goals go_returns
      all_goals (try simp only [Bool.not_eq_true', Bool.not_eq_false'] at *)
      all_goals (subst_vars; refine ⟨?_, by go_grown⟩; first | (simp [chg4, chg4E, Key4.tk, Key4.set, zero4]; done) | (have hx : d < 0 ∨ 3 < d := (by omega); simp [chg4, chg4E, Key4.tk, zero4, hx]; done) | (have hx : ¬ (d < 0 ∨ 3 < d) := (by omega); simp [chg4, chg4E, Key4.tk, Key4.set, hx]; done))

theorem keysFirst_any (w : World) :
    Calls Try.prog 25 #[] w fun e w' => e = .returned (.agg #[.bool true, .int .i64 0, .bool false, .int .i64 0, .bool false, .int .i64 0, .bool false, .int .i64 0]) ∧ Below w.heap.size w w' := by
  go_enter Try.func25, Try.ntmps25
  go_wp2
  go_returns
  exact ⟨rfl, by go_grown⟩
end Go.Proofs.Ytokpodmefnmmcaa
