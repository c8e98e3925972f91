/- Lemmas. -/
import Derived.Test.YtoogfmbojlpjaaaGreatQ1
import Derived.SizedLaws
import Derived.Test.YtoogfmbojlpjaaaGreatQA
set_option maxRecDepth 100000
set_option maxHeartbeats 32000000
set_option linter.unusedVariables false
set_option linter.unusedSimpArgs false
namespace Go.Proofs.YtoogfmbojlpjaaaGreat
open Go.ChangeShapes Go.WideShapes Go.ChangeAt Go.RowKit Go.Joins
section
section
variable {H:Type} {enc:TypeId×Value->H} {P:Program} {w:World} {base:Nat} {held:Bool}
def aKa (c:Nat) (d:DataW H):Prop:=(d=.nil/\c=0)\/∃elems spare,d=.slice elems spare/\elems.length+spare.length=c
theorem Jj {t e:TypeId} {A:Option Addr} {n c:Nat} {d:DataW H} {p:List MemPlace} (ht:P.underlying t=some (.slice e))
 (h:DataW.Trod enc P w base (λ_=>true) held t (.slice A n c) d p):aKa c d:=by
 obtain⟨fuel,hf⟩:=h;rcases DataW.trod_slice ht hf with⟨hcs,hx⟩|⟨a,len,cap,elems,rest,m,_,hcs,hx,_,hl,_,hlen,_,hsp,_⟩
 ·simp[Value.cells] at hcs
  obtain⟨rfl,rfl,rfl⟩:=hcs;simp only[Prod.mk.injEq] at hx;exact Or.inl ⟨hx.1,rfl⟩
 ·simp[Value.cells] at hcs
  obtain⟨rfl,rfl,rfl⟩:=hcs;simp only[Prod.mk.injEq] at hx;have h2:=(hsp rfl).1;exact Or.inr ⟨_,_,hx.1,by simp only[List.length_map];omega⟩
theorem aD9 {t e:TypeId} {c j:Nat} {ts:List TypeId} {ds:List (DataW H)} {d:DataW H} (hd:aKa c d) (h:(DataW.weightsEach P ts ds).all (· <=reachBytes)=true) (ht:ts[j]? =some t) (hj:ds[j]? =some d) (hu:P.underlying t=some (.slice e)):c*P.bytesOf e<=reachBytes:=by
 rcases hd with⟨_,rfl⟩|⟨elems,spare,rfl,rfl⟩
 ·rw[Nat.zero_mul];exact Nat.zero_le _
 ·exact sized_slice h ht hj hu
end
end
end Go.Proofs.YtoogfmbojlpjaaaGreat
