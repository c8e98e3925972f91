/- Lemmas. -/
import Derived.Test.YtoogfmbojlpjaaaGreatQ2
import Derived.Laws.BytesArg
import Derived.Laws.MakeOwn
import Derived.Test.YtoogfmbojlpjaaaGreatQA
set_option maxRecDepth 100000
set_option maxHeartbeats 32000000
set_option linter.unusedVariables false
set_option linter.unusedSimpArgs false
namespace Go.Proofs.YtoogfmbojlpjaaaGreat
open Go.RowKit
def lM (k:Nat):Array Value:=madeCells (Value.int .u8 0).cells (k*1)
theorem aEn (k:Nat) (hk:k<=281474976710656) (w:World):
 (Instr.makeSlice 58 (.int .i64 (k:Int)) (.int .i64 (k:Int))).run Tryz.prog w=.ok (.slice (some ⟨w.heap.size,0,none⟩) k k) (w.alloc (.cells (lM k) 5)):=by
 obtain⟨i0,hi,hz0,hz1,hz2⟩:=info_parts aGu;have hr:=run_make (P:=Tryz.prog) w 58 5 i0 (.int .u8 0) Tryz.underlying58 hi hz0 .i64 .i64 (k:Int) (k:Int) (by omega) (by omega) (by rw[hz2];omega) (by omega);simp only[Int.toNat_natCast,hz1] at hr;exact hr
theorem aEo (k i:Nat) (hi:i<k):(lM k)[i]? =some (.int .u8 0):=by
 simp[lM,madeCells,Value.cells];exact⟨i,by simp[hi],by simp[Nat.mod_one]⟩
theorem R9 (k:Nat):(lM k).size=k:=by simp[lM,madeCells,Value.cells]
theorem aCJ (k i:Nat):(List.replicate k (0:Int)).getD i 0=0:=by
 rcases Nat.lt_or_ge i k with h|h
 ·simp[List.getD,h]
 ·simp[List.getD,Nat.not_lt.2 h]
end Go.Proofs.YtoogfmbojlpjaaaGreat
