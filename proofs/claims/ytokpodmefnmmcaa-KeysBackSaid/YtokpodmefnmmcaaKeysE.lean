/- '==' between two arrays of four keys. -/
import Derived.Test.YtokpodmefnmmcaaKeys
namespace Go.Proofs.Ytokpodmefnmmcaa
open Go.RowKit
theorem keyinfo : (Try.prog.info? 32).map (fun i => i.size) = some 2 := by kernel_rfl
theorem keystood : Try.prog.stoodInHeld 32 = false := by kernel_rfl
theorem run_eq_key (d : Nat) (a0 b0 : Bool) (a1 b1 : Int) (w : World) :
    (Op.equalIn (d + 2) 32 (.agg #[.bool a0, .int .i64 a1]) (.agg #[.bool b0, .int .i64 b1])).run Try.prog w = .ok (a0 == b0 && a1 == b1) w := by
  by_cases h0 : a0 = b0 <;> by_cases h1 : a1 = b1 <;> simp [go_sem, Try.underlying32, Try.underlying4, Try.underlying3, h0, h1]
theorem run_eq_keysd (d : Nat) (a0 a2 a4 a6 b0 b2 b4 b6 : Bool) (a1 a3 a5 a7 b1 b3 b5 b7 : Int) (w : World) :
    (Op.equalIn (d + 3) 33 (.agg #[.bool a0, .int .i64 a1, .bool a2, .int .i64 a3, .bool a4, .int .i64 a5, .bool a6, .int .i64 a7])
      (.agg #[.bool b0, .int .i64 b1, .bool b2, .int .i64 b3, .bool b4, .int .i64 b5, .bool b6, .int .i64 b7])).run Try.prog w =
      .ok ((a0 == b0 && a1 == b1) && ((a2 == b2 && a3 == b3) && ((a4 == b4 && a5 == b5) && (a6 == b6 && a7 == b7)))) w := by
  obtain ⟨i, hi, hs⟩ : ∃ i, Try.prog.info? 32 = some i ∧ i.size = 2 := by
    have := keyinfo
    cases h : Try.prog.info? 32 with
    | none => rw [h] at this; cases this
    | some i => rw [h] at this; exact ⟨i, rfl, by simpa using this⟩
  have hm : ∀ w, Sem.run Try.prog (typeInfo 32) w = Result.ok i w := fun w => by simp [typeInfo, hi]
  rw [Op.equalIn]
  simp only [Sem.run_bind, run_underlying Try.underlying33, Result.andThen_ok]
  simp only [sizeOf, Std.Legacy.Range.forIn_eq_forIn_range', Std.Legacy.Range.size, List.range'_succ, List.forIn_cons, go_sem]
  simp [go_sem, run_eq_key, hm, hs]
  (repeat' split) <;> simp_all
theorem run_eq_keys (a0 a2 a4 a6 b0 b2 b4 b6 : Bool) (a1 a3 a5 a7 b1 b3 b5 b7 : Int) (w : World) :
    (Op.equalIn 10000 33 (.agg #[.bool a0, .int .i64 a1, .bool a2, .int .i64 a3, .bool a4, .int .i64 a5, .bool a6, .int .i64 a7])
      (.agg #[.bool b0, .int .i64 b1, .bool b2, .int .i64 b3, .bool b4, .int .i64 b5, .bool b6, .int .i64 b7])).run Try.prog w =
      .ok ((a0 == b0 && a1 == b1) && ((a2 == b2 && a3 == b3) && ((a4 == b4 && a5 == b5) && (a6 == b6 && a7 == b7)))) w := run_eq_keysd 9997 a0 a2 a4 a6 b0 b2 b4 b6 a1 a3 a5 a7 b1 b3 b5 b7 w
end Go.Proofs.Ytokpodmefnmmcaa
