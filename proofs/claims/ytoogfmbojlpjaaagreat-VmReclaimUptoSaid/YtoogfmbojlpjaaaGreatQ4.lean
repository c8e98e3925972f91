/- Lemmas. -/
import Derived.Test.YtoogfmbojlpjaaaGreatQ3
import Derived.BigQuiet
import Derived.OwnWalk
import Derived.Deep.Slices
import Derived.Test.YtoogfmbojlpjaaaGreatQA
set_option maxRecDepth 100000
set_option maxHeartbeats 32000000
set_option linter.unusedVariables false
set_option linter.unusedSimpArgs false
namespace Go.Proofs.YtoogfmbojlpjaaaGreat
open Go.ChangeShapes Go.WideShapes Go.ChangeAt Go.RowKit Go.Joins
section
section
variable {H:Type} {enc:TypeId×Value->H} {P:Program} {w:World} {base:Nat} {held:Bool}
theorem addr_add (b off i:Nat):(Addr.add ⟨b,off,none⟩ i)=⟨b,off+i,none⟩:=by
 unfold Addr.add;split<;>simp_all
theorem Yz {α:Type} [Inhabited α] (f:α->List Value) (R:α->Prop) {t e:TypeId} {sz:Nat} {A:Option Addr} {n c:Nat} {d:DataW H} {p:List MemPlace} (ht:P.underlying t=some (.slice e)) (hC:P.cellsOf e=sz) (hs:0<sz)
 (hel:∀fuel cs x,DataW.trod enc P w base (λ_=>true) held fuel e cs=some x->cs.length=sz->∃a:α,cs=f a/\R a) (hf:∀a,(f a).length=sz)
 (h:DataW.Trod enc P w base (λ_=>true) held t (.slice A n c) d p):∃xs,Rw f sz w w.heap.size A n xs/\(∀x∈xs,R x)/\n<=c/\c<=maxLen:=by
 obtain⟨fuel,hfu⟩:=h;rcases Go.Deep.open_slice ht hfu with⟨hcs,_⟩|⟨a,len,cap,m,n',D,Pl,hcs,hb,hl,hm,hmm,_,hi⟩
 ·simp[Value.cells] at hcs
  obtain⟨rfl,rfl,rfl⟩:=hcs;exact⟨[],Rw.nil,by simp,by omega,by simp⟩
 ·simp[Value.cells] at hcs
  obtain⟨rfl,rfl,rfl⟩:=hcs;simp only[if_true] at hmm;subst hmm;rw[hC] at hi;obtain⟨X,hX⟩:=Go.Deep.choose_lt (α:=α) (n:=m) (p:=λi x=>w.cells? base (a.add (i*sz)) sz=some (f x)/\R x) (λi him=>by
   obtain⟨cs',h1,h2⟩:=hi i him;obtain⟨_,hcl,_⟩:=World.cells?_some h1;obtain⟨x,rfl,hr⟩:=hel _ _ _ h2 hcl;exact⟨x,h1,hr⟩)
  refine⟨(List.range n).map X,⟨by simp,by omega,λhn=> ?_⟩,λx hx=> ?_,hl,hm⟩
  ·obtain⟨b,off,spot⟩:=a
   have hcell:∀i,i<m->∀j,j<sz->w.cell? ((Addr.add ⟨b,off,spot⟩ (i*sz)).add j)=(f (X i))[j]? :=λi him j hj=>by
    obtain⟨_,_,hat⟩:=World.cells?_some (hX i him).1;exact hat j hj
   have h00:=hcell 0 (by omega) 0 hs;have hf0:(f (X 0))[0]? =some ((f (X 0))[0]'(by rw[hf];exact hs)):=List.getElem?_eq_getElem _;rw[hf0] at h00;have hspot:spot=none:=by simpa[Addr.add] using World.cell?_spot h00
   subst hspot;rw[Go.Deep.add_add,addr_add] at h00;refine⟨b,off,rfl,?_,λi x hx j v hv=> ?_⟩
   ·rw[show off+(0*sz+0)=off by omega] at h00;exact lt_of_cell h00
   ·have hi':i<n:=by have:=(List.getElem?_eq_some_iff.1 hx).1;simpa using this
    have hj:j<sz:=by have:=(List.getElem?_eq_some_iff.1 hv).1;rwa[hf] at this
    have:=hcell i (by omega) j hj;rw[Go.Deep.add_add,addr_add] at this;simp[hi'] at hx;subst hx;rw[show off+i*sz+j=off+(i*sz+j) by omega,this,hv]
  ·obtain⟨i,hi',rfl⟩:=List.mem_map.1 hx
   exact(hX i (by have:=List.mem_range.1 hi';omega)).2
end
section
variable {α:Type} {f:α->List Value} {sz:Nat} {w w':World} {B B' base:Nat} {A:Option Addr} {n c:Nat} {xs:List α} {T:TypeId} {v:Value}
def Os {α:Type} (f:α->List Value) (sz:Nat) (T:TypeId) (w:World) (base:Nat) (v:Value) (xs:List α):Prop:=w.ownsRow base T sz v xs.length (xs.flatMap f)
theorem Os.below (h:Os f sz T w base v xs) (hb:Below B w w') (hB:w.heap.size<=B):Os f sz T w' base v xs:=by
 obtain⟨h1,h|⟨g,cap,cur,e,hg,hh,hn,hm,hz,hx⟩⟩:=h
 ·exact⟨h1,.inl h⟩
 ·exact⟨h1,.inr ⟨g,cap,cur,e,hg,(hb.block g (Nat.lt_of_lt_of_le (kM hh) hB)).trans hh,hn,hm,hz,hx⟩⟩
theorem Os.gD (h:Os f sz T w base v xs) (hb:B<=base):Os f sz T w B v xs:=by
 obtain⟨h1,h|⟨g,cap,cur,e,hg,hh,hn,hm,hz,hx⟩⟩:=h
 ·exact⟨h1,.inl h⟩
 ·exact⟨h1,.inr ⟨g,cap,cur,e,by omega,hh,hn,hm,hz,hx⟩⟩
theorem Os.nil:Os f sz T w base (.slice none 0 0) []:=⟨by simp,.inl ⟨rfl,rfl⟩⟩
theorem Os.row (hf:∀x,(f x).length=sz) (h:Os f sz T w base v xs):∃A c,v=.slice A xs.length c/\xs.length<=c/\c<=maxLen/\Rw f sz w w.heap.size A xs.length xs:=by
 obtain⟨h1,⟨rfl,h⟩|⟨g,cap,cur,e,hg,hh,hn,hm,hz,hx⟩⟩:=h
 ·obtain rfl:=List.eq_nil_of_length_eq_zero h
  exact⟨none,0,rfl,by simp,by simp,Rw.nil⟩
 ·refine⟨_,_,e,hn,hm,rfl,by omega,λhn0=>⟨g,0,rfl,kM hh,λi x hix j u hu=> ?_⟩⟩
  have hj:j<sz:=by have:=(List.getElem?_eq_some_iff.1 hu).1;rwa[hf] at this
  have hi:i<xs.length:=(List.getElem?_eq_some_iff.1 hix).1;rw[dW hh,Nat.zero_add];have e1:(cur.toList.take (xs.length*sz))[i*sz+j]? =some u:=by rw[hx,vM hf xs i x hix j hj];exact hu
  rw[List.getElem?_take] at e1;have hlt:i*sz+j<xs.length*sz:=by
   have:(i+1)*sz<=xs.length*sz:=Nat.mul_le_mul_right _ (by omega);rw[Nat.succ_mul] at this;omega
  rw[if_pos hlt] at e1;simpa using e1
theorem Rw.drop {b off:Nat} (h:Rw f sz w B (some ⟨b,off,none⟩) n xs) (k:Nat):Rw f sz w B (some ⟨b,off+k*sz,none⟩) (n -k) (xs.drop k):=
 ⟨by rw[List.length_drop,h.1],by have:=h.2.1;omega,λh0=>by
   obtain⟨b',off',e,hb,hc⟩:=h.2.2 (by omega);injection e with e;injection e with e1 e2;subst e1 e2;refine⟨b,off+k*sz,rfl,hb,λi x hx j u hu=> ?_⟩;rw[List.getElem?_drop] at hx;have:=hc (k+i) x hx j u hu;rwa[Nat.add_mul,<-Nat.add_assoc] at this⟩
theorem Rw.at_ {b off i:Nat} {x:α} (hf:∀x,(f x).length=sz) (h:Rw f sz w B (some ⟨b,off,none⟩) n xs) (hx:xs[i]? =some x):∀j v,(f x)[j]? =some v->w.cell? ⟨b,off+i*sz+j,none⟩=some v:=by
 have hi:i<n:=by have:=(List.getElem?_eq_some_iff.1 hx).1;rwa[h.1] at this
 obtain⟨b',off',e,hb,hc⟩:=h.2.2 (by omega);injection e with e;injection e with e1 e2;subst e1 e2;exact hc i x hx
theorem Rw.open (h:Rw f sz w B A n xs) (hn:0<n):∃b off,A=some ⟨b,off,none⟩/\b<B:=by
 obtain⟨b,off,e,hb,_⟩:=h.2.2 hn;exact⟨b,off,e,hb⟩
end
end
end Go.Proofs.YtoogfmbojlpjaaaGreat
