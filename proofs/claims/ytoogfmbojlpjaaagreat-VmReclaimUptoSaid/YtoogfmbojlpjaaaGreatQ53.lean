/- Lemmas. -/
import Derived.Test.YtoogfmbojlpjaaaGreatQ3
import Derived.Test.YtoogfmbojlpjaaaGreatQ23
import Derived.Test.YtoogfmbojlpjaaaGreatQ17
import Derived.Deep.Grids
import Derived.JoinedCond
import Derived.Test.YtoogfmbojlpjaaaGreatQA
set_option maxRecDepth 100000
set_option maxHeartbeats 32000000
set_option linter.unusedVariables false
set_option linter.unusedSimpArgs false
namespace Go.Proofs.YtoogfmbojlpjaaaGreat
open Go.ChangeShapes Go.WideShapes Go.ChangeAt Go.RowKit Go.Joins
theorem aJB {H:Type} (d:DataW H):1<=Rows.uptoBulk d:=by
 cases d with
 |lit l=>cases l<;>simp[Rows.uptoBulk]
 |nil=>simp[Rows.uptoBulk]
 |ptr d=>simp[Rows.uptoBulk]
 |slice elems spare=>simp[Rows.uptoBulk]
 |agg parts=>simp[Rows.uptoBulk]
 |iface t d=>simp[Rows.uptoBulk]
 |map entries=>simp[Rows.uptoBulk]
 |held h=>simp[Rows.uptoBulk]
theorem aHP {H:Type} {d:DataW H} {l:List (DataW H)} (h:d∈l):Rows.uptoBulk d<=Rows.uptoBulkAll l:=by
 induction l with
 |nil=>cases h
 |cons x r ih=>
  simp only[Rows.uptoBulkAll];cases List.mem_cons.1 h with
  |inl e=>subst e;omega
  |inr e=>have:=ih e;omega
theorem aDe {H:Type} (l:List (DataW H)):l.length<=Rows.uptoBulkAll l:=by
 induction l with
 |nil=>simp[Rows.uptoBulkAll]
 |cons x r ih=>have:=aJB x;simp only[Rows.uptoBulkAll,List.length_cons];omega
theorem aGM {H:Type} {l:List (DataW H)} (hk:Rows.uptoSmall H l=true):Rows.uptoBulkAll l<=1048576:=of_decide_eq_true hk
theorem Ug {H:Type} {l:List (DataW H)} {d:DataW H} {c:Nat} (hk:Rows.uptoSmall H l=true) (hm:d∈l) (hd:aKa c d):c<=1048576:=by
 have h1:=aGM hk;have h2:=aHP hm;rcases hd with⟨_,rfl⟩|⟨elems,spare,rfl,rfl⟩
 ·exact Nat.zero_le _
 ·have h3:=aDe elems
  have h4:=aDe spare;simp only[Rows.uptoBulk] at h2;omega
end Go.Proofs.YtoogfmbojlpjaaaGreat
