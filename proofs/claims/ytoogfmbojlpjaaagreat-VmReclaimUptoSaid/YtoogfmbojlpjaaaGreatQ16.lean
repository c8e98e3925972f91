/- Lemmas. -/
import Derived.Test.YtoogfmbojlpjaaaGreatRows
import Derived.Test.YtoogfmbojlpjaaaGreatQA
set_option maxRecDepth 100000
set_option maxHeartbeats 32000000
set_option linter.unusedVariables false
set_option linter.unusedSimpArgs false
namespace Go.Proofs.YtoogfmbojlpjaaaGreat
structure iO where
 p:Int
 g:Int
 k:Int
 n:Int
instance:Inhabited iO:=⟨⟨0,0,0,0⟩⟩
def aA7 (p:Int) (x:iO):Bool:=x.p==p
def Ke (p g:Int) (x:iO):Bool:=x.p==p&&x.g==g
def Fa (p:Int) (t:List iO):List iO:=t.filter λx=> !aA7 p x
def fF (p g:Int) (t:List iO):List iO:=t.filter λx=> !Ke p g x
def Fb (l:List iO):List iO:=if 8<l.length then l.drop 1 else l
theorem xB (p g:Int) (t:List iO):(fF p g t).length<=t.length:=List.length_filter_le _ _
end Go.Proofs.YtoogfmbojlpjaaaGreat
