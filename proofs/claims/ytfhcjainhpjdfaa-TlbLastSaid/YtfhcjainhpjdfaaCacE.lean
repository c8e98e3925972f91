/- api.Cached: its cells, '==', its type's facts. -/
import Derived.Test.YtfhcjainhpjdfaaSt
import Derived.Test.YtfhcjainhpjdfaaTlbL
import Derived.Laws.StructEq
namespace Go.Proofs.Ytfhcjainhpjdfaa
open Go.ChangeShapes Go.WideShapes Go.ChangeAt Go.RowKit Go.Joins
set_option linter.unusedVariables false
def fC (x : Cac) : List Value := [.int .i64 x.p, .int .i64 x.g, .int .i64 x.k, .int .i64 x.n]
theorem fC_len (x : Cac) : (fC x).length = 4 := rfl
theorem fC_one (xs : List Cac) : ∀ u ∈ xs.flatMap fC, u.oneCell' = true := by
  intro u hu
  obtain ⟨y, _, hy⟩ := List.mem_flatMap.1 hu
  simp [fC] at hy
  rcases hy with rfl | rfl | rfl | rfl <;> rfl
theorem info_C : (Try.prog.info? 27).map (fun i => (i.zero, i.size, i.bytes)) = some (some (.agg #[.int .i64 0, .int .i64 0, .int .i64 0, .int .i64 0]), 4, 32) := by kernel_rfl
theorem run_eqEnt (d : Nat) (a b c e : Int) (w : World) : (Op.equalIn (d + 2) 25 (.agg #[.int .i64 a, .int .i64 b]) (.agg #[.int .i64 c, .int .i64 e])).run Try.prog w = .ok (a == c && b == e) w := by
  by_cases h0 : a = c <;> by_cases h1 : b = e <;> simp [go_sem, Try.underlying25, Try.underlying3, h0, h1]
theorem run_eqCd (d : Nat) (x y : Cac) (w : World) : (Op.equalIn (d + 3) 27 (.agg #[.int .i64 x.p, .int .i64 x.g, .int .i64 x.k, .int .i64 x.n]) (.agg #[.int .i64 y.p, .int .i64 y.g, .int .i64 y.k, .int .i64 y.n])).run Try.prog w = .ok (eqC x y) w := by
  have aE := Try.isAgg25
  have zE := Try.sizeOf25
  by_cases h0 : x.p = y.p <;> by_cases h1 : x.g = y.g <;> by_cases h2 : x.k = y.k <;> by_cases h3 : x.n = y.n <;> simp [go_sem, Try.underlying27, Try.underlying3, run_eqEnt, aE, zE, h0, h1, h2, h3, eqC]
end Go.Proofs.Ytfhcjainhpjdfaa
