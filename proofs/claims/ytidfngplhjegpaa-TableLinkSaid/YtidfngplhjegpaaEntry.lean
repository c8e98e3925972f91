/- entry.Pack, Unpack and the document's DPack, DUnpack: what they answer. -/
import Derived.Test.YtidfngplhjegpaaBase
namespace Go.Proofs.Ytidfngplhjegpaa
open Go.RowKit
attribute [local go_sem] and255

def packE (k n : Int) : Int := if k < 0 ∨ 2 < k then 5 else if n < 0 ∨ 64 ≤ n ∨ (k = 0 ∧ n ≠ 0) then 2 else 0
def packV (k n : Int) : Int := if packE k n = 0 then k + 256 * n else 0
theorem packE_kind {k n : Int} (h : k < 0 ∨ 2 < k) : packE k n = 5 := by unfold packE; rw [if_pos h]
theorem packE_range {k n : Int} (h : ¬ (k < 0 ∨ 2 < k)) (h' : n < 0 ∨ 64 ≤ n ∨ (k = 0 ∧ n ≠ 0)) : packE k n = 2 := by unfold packE; rw [if_neg h, if_pos h']
theorem packE_ok {k n : Int} (h : ¬ (k < 0 ∨ 2 < k)) (h' : ¬ (n < 0 ∨ 64 ≤ n ∨ (k = 0 ∧ n ≠ 0))) : packE k n = 0 := by unfold packE; rw [if_neg h, if_neg h']
theorem packV_ok {k n : Int} (h : packE k n = 0) : packV k n = k + 256 * n := by unfold packV; rw [if_pos h]
theorem packV_no {k n : Int} (h : packE k n ≠ 0) : packV k n = 0 := by unfold packV; rw [if_neg h]

theorem pk5 {k n : Int} (h : k < 0 ∨ 2 < k) : Ending.returned (.tuple #[.int .i64 0, .int .i64 5]) = .returned (.tuple #[.int .i64 (packV k n), .int .i64 (packE k n)]) :=
  ret_ii (packV_no (by rw [packE_kind h]; decide)).symm (packE_kind h).symm
theorem pk2 {k n : Int} (h : ¬ (k < 0 ∨ 2 < k)) (h' : n < 0 ∨ 64 ≤ n ∨ (k = 0 ∧ n ≠ 0)) : Ending.returned (.tuple #[.int .i64 0, .int .i64 2]) = .returned (.tuple #[.int .i64 (packV k n), .int .i64 (packE k n)]) :=
  ret_ii (packV_no (by rw [packE_range h h']; decide)).symm (packE_range h h').symm
theorem pk0 {k n v : Int} (h : ¬ (k < 0 ∨ 2 < k)) (h' : ¬ (n < 0 ∨ 64 ≤ n ∨ (k = 0 ∧ n ≠ 0))) (hv : v = k + 256 * n) : Ending.returned (.tuple #[.int .i64 v, .int .i64 0]) = .returned (.tuple #[.int .i64 (packV k n), .int .i64 (packE k n)]) :=
  ret_ii (by rw [packV_ok (packE_ok h h'), hv]) (packE_ok h h').symm

set_option maxHeartbeats 1000000 in
theorem pack_any (k n : Int) (w : World) :
    Calls Try.prog 50 #[.agg #[.int .i64 k, .int .i64 n]] w fun e w' => e = .returned (.tuple #[.int .i64 (packV k n), .int .i64 (packE k n)]) ∧ w' = w.alloc (.cells #[.int .i64 k, .int .i64 n] 36) := by
  go_enter Try.func50, Try.ntmps50
  go_wp2
  all_goals (try simp only [bne_iff_ne, bne_eq_false_iff_eq, ne_eq] at *)
  all_goals (go_ret2; refine ⟨?_, by first | rfl | (rw [show k = 0 by omega]) | (rw [show k = 1 by omega]) | (rw [show k = 2 by omega])⟩)
  all_goals first
    | exact pk5 (by omega)
    | exact pk2 (by omega) (by omega)
    | (go_unwrap; exact pk0 (by omega) (by omega) (by first | omega | (rw [or_join 8 _ _ (by omega) (by omega) (by omega) (by omega) (by omega)]; omega)))

theorem dpack_any (k n : Int) (w : World) :
    Calls Try.prog 41 #[.agg #[.int .i64 k, .int .i64 n]] w fun e w' => e = .returned (.tuple #[.int .i64 (packV k n), .int .i64 (packE k n)]) ∧ w' = w.alloc (.cells #[.int .i64 k, .int .i64 n] 36) := by
  go_enter Try.func41, Try.ntmps41
  go_wp2
  all_goals (try simp only [bne_iff_ne, bne_eq_false_iff_eq, ne_eq] at *)
  all_goals (go_ret2; refine ⟨?_, by first | rfl | (rw [show k = 0 by omega]) | (rw [show k = 1 by omega]) | (rw [show k = 2 by omega])⟩)
  all_goals first
    | exact pk5 (by omega)
    | exact pk2 (by omega) (by omega)
    | (go_unwrap; exact pk0 (by omega) (by omega) (by omega))

/-- What a number's entry is: Unpack. -/
def unE (v : Int) : Int := if packE (v % 256) (v / 256) = 0 then 0 else 1
def unK (v : Int) : Int := if packE (v % 256) (v / 256) = 0 then v % 256 else 0
def unN (v : Int) : Int := if packE (v % 256) (v / 256) = 0 then v / 256 else 0
theorem un_ok {v : Int} (h : packE (v % 256) (v / 256) = 0) : unE v = 0 ∧ unK v = v % 256 ∧ unN v = v / 256 := by unfold unE unK unN; simp [h]
theorem un_no {v : Int} (h : packE (v % 256) (v / 256) ≠ 0) : unE v = 1 ∧ unK v = 0 ∧ unN v = 0 := by unfold unE unK unN; simp [h]

theorem unpack_any (v : Int) (w : World) :
    Calls Try.prog 47 #[.int .i64 v] w fun e w' => e = .returned (.tuple #[.agg #[.int .i64 (unK v), .int .i64 (unN v)], .int .i64 (unE v)]) ∧ Below w.heap.size w w' := by
  by_cases h : packE (v % 256) (v / 256) = 0
  · obtain ⟨e1, e2, e3⟩ := un_ok h
    have hv := packV_ok h
    have hvv : packV (v % 256) (v / 256) = v := by omega
    rw [e1, e2, e3]
    have t1 : (packE (v % 256) (v / 256) != 0) = false := by simp [h]
    have t2 : (packV (v % 256) (v / 256) != v) = false := by simp [hvv]
    clear h hv hvv e1 e2 e3
    go_enter Try.func47, Try.ntmps47
    go_wp2_with (go_at_call 50; refine (pack_any _ _ _).mono ?_; rintro e w' ⟨rfl, rfl⟩)
    refine bodyPost_ret (v := .tuple #[.agg #[.int .i64 (v % 256), .int .i64 (v / 256)], .int .i64 0]) (by simp [results, Try.results47, go_sem]) rfl ⟨rfl, by go_grown⟩
  · obtain ⟨e1, e2, e3⟩ := un_no h
    rw [e1, e2, e3]
    have hp := packV_no h
    by_cases hk : packE (v % 256) (v / 256) = 0
    · exact absurd hk h
    have t1 : (packE (v % 256) (v / 256) != 0) = true := by simp [h]
    clear h hk e1 e2 e3 hp
    go_enter Try.func47, Try.ntmps47
    go_wp2_with (go_at_call 50; refine (pack_any _ _ _).mono ?_; rintro e w' ⟨rfl, rfl⟩)
    refine bodyPost_ret (v := .tuple #[.agg #[.int .i64 0, .int .i64 0], .int .i64 1]) (by simp [results, Try.results47, go_sem]) rfl ⟨rfl, by go_grown⟩
end Go.Proofs.Ytidfngplhjegpaa
