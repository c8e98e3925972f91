/- Lemmas. -/
import Derived.Test.YtoogfmbojlpjaaaGreatQ4
import Derived.Test.YtoogfmbojlpjaaaGreatQ16
import Derived.Laws.StructEq
import Derived.Test.YtoogfmbojlpjaaaGreatQA
set_option maxRecDepth 100000
set_option maxHeartbeats 32000000
set_option linter.unusedVariables false
set_option linter.unusedSimpArgs false
namespace Go.Proofs.YtoogfmbojlpjaaaGreat
open Go.ChangeShapes Go.WideShapes Go.ChangeAt Go.RowKit Go.Joins
def fC (x:iO):List Value:=[.int .i64 x.p,.int .i64 x.g,.int .i64 x.k,.int .i64 x.n]
theorem qE (x:iO):(fC x).length=4:=rfl
theorem aHB (xs:List iO):∀u∈xs.flatMap fC,u.oneCell'=true:=by
 intro u hu;obtain⟨y,_,hy⟩:=List.mem_flatMap.1 hu;simp[fC] at hy;rcases hy with rfl|rfl|rfl|rfl<;>rfl
theorem aHi:(Tryz.prog.info? 210).map (λi=>(i.zero,i.size,i.bytes))=some (some (.agg #[.int .i64 0,.int .i64 0,.int .i64 0,.int .i64 0]),4,32):=by kernel_rfl
end Go.Proofs.YtoogfmbojlpjaaaGreat
