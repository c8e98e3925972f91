/- Lemmas. -/
import Derived.Test.YtoogfmbojlpjaaaGreatQ49
import Derived.Test.YtoogfmbojlpjaaaGreatQ48
import Derived.Test.YtoogfmbojlpjaaaGreatQ32
import Derived.Test.YtoogfmbojlpjaaaGreatQ6
import Derived.Test.YtoogfmbojlpjaaaGreatQA
set_option maxRecDepth 100000
set_option maxHeartbeats 32000000
set_option linter.unusedVariables false
set_option linter.unusedSimpArgs false
namespace Go.Proofs.YtoogfmbojlpjaaaGreat
section
theorem aAd (f:gT->Int):∀l:List gT,(l.map f).sum=aM (λi=>f (l.getD i default)) l.length:=by
 intro l;have:l.map f=(List.range l.length).map λi=>f (l.getD i default):=by
  refine List.ext_getElem (by simp) λi h1 h2=> ?_;simp only[List.length_map] at h1;simp[List.getD,List.getElem?_eq_getElem h1]
 rw[this,yB]
theorem Nr {v:Vm} (h:v.dv.length=64):jJ v+kU v=dL v:=by
 unfold jJ kU dL;rw[yB,aAd,h];rfl
section
variable {v:Vm}
theorem aDW (h:dX v ze ze []):0<=jJ v/\jJ v<=64/\0<=kU v/\kU v<=64:=by
 unfold jJ kU;rw[yB,aAd,h.F.dl];have a:=fV (f:=λ_=>0) (g:=λn=>min (v.rf n) 1) (n:=64) λi hi=>by have:=h.V9 Ik i hi;omega
 have b:=fV (f:=λn=>min (v.rf n) 1) (g:=λ_=>1) (n:=64) λi hi=>by omega
 have c:=fV (f:=λ_=>0) (g:=λn=>min (v.dv.getD n default).r 1) (n:=64) λi hi=>by have:=(h.sr0 i hi).1;unfold eB sl at this;omega
 have d:=fV (f:=λn=>min (v.dv.getD n default).r 1) (g:=λ_=>1) (n:=64) λi hi=>by omega
 rw[fZ] at a c;rw[wP] at b d;exact⟨a,b,c,d⟩
theorem aMa (h:dX v ze ze []):dL v<=full (aA v)+j4 v:=by
 have A:=h.A;have h1:aM (λf=>min (v.rf f) 1) 64<=aM (λf=>aM (λt=>ind (aI v t=((f:Nat):Int))) 36+dE (aA v) (1,((f:Nat):Int))) 64:=fV λf hf=>by
  by_cases ht:∃t,t<36/\aI v t=f
  ·obtain⟨t,h2,h3⟩:=ht
   have:=Dz (f:=λt=>ind (aI v t=((f:Nat):Int))) h2 (λi _=>(dS _).1);simp only[bP h3] at this;have:=oJ (aA v) (1,((f:Nat):Int));omega
  ·have h2:=A.fr f hf λt h3 h4=>ht ⟨t,h3,h4⟩
   have:=wQ (f:=λt=>ind (aI v t=((f:Nat):Int))) (n:=36) (λi _=>(dS _).1);unfold ze at h2;omega
 have h2:aM (λs=>min (eB v s) 1) 64<=aM (λs=>dE (aA v) (2,((s:Nat):Int))) 64:=fV λs hs=>by
  have:=A.sy s hs;unfold ze at this;omega
 rw[zU,rO (λf t=>ind (aI v t=((f:Nat):Int)))] at h1;have h3:aM (λt=>aM (λf=>ind (aI v t=((f:Nat):Int))) 64) 36<=j4 v:=fV λt ht=>by
  rcases A.tr t ht with h4|h4
  ·rw[dM (g:=λ_=>0) (λf hf=>aY λhh=>by omega),fZ];exact(dS _).1
  ·rw[nX (j:=(aI v t).toNat) (by omega) (λi hi hne=>aY λhh=>hne (by omega)),bP (p:=aI v t≠ -1) (by omega)];exact(dS _).2
 have h4:aM (λf=>dE (aA v) (1,((f:Nat):Int))) 64+aM (λs=>dE (aA v) (2,((s:Nat):Int))) 64<=full (aA v):=by
  unfold dE full;rw[rO (λf i=>ind (aA v i=(1,((f:Nat):Int)))),rO (λs i=>ind (aA v i=(2,((s:Nat):Int)))),<-zU];refine fV λi hi=> ?_;have hr:=nH (A.er i hi);by_cases c1:(aA v i).1=1
  ·rw[bP (p:=(aA v i).1≠0) (by omega),nX (f:=λf:Nat=>ind (aA v i=(1,(f:Int)))) (j:=(aA v i).2.toNat) (by omega) (λs hs hne=>aY λhh=>hne (by rw[hh];simp)),dM (f:=λs:Nat=>ind (aA v i=(2,(s:Int)))) (g:=λ_=>0) (λs hs=>aY λhh=>by rw[hh] at c1;cases c1),fZ]
   have:=(dS (aA v i=(1,(((aA v i).2.toNat:Nat):Int)))).2;omega
  ·rw[dM (f:=λf:Nat=>ind (aA v i=(1,(f:Int)))) (g:=λ_=>0) (λs hs=>aY λhh=>c1 (by rw[hh])),fZ]
   by_cases c2:(aA v i).1=2
   ·rw[bP (p:=(aA v i).1≠0) (by omega),nX (j:=(aA v i).2.toNat) (by omega) (λs hs hne=>aY λhh=>hne (by rw[hh];simp))]
    have:=(dS (aA v i=(2,(((aA v i).2.toNat:Nat):Int)))).2;omega
   ·rw[dM (f:=λs:Nat=>ind (aA v i=(2,(s:Int)))) (g:=λ_=>0) (λs hs=>aY λhh=>c2 (by rw[hh])),fZ]
    have:=(dS ((aA v i).1≠0)).1;omega
 unfold dL;omega
def Ky (v:Vm):Int:=aM (λk=>ind ((v.ps k).live=true)) 4
theorem Kq (v:Vm):j4 v=aM (λi=>ind (aI v i≠ -1)) 9+aM (λi=>ind (aI v (9+i)≠ -1)) 9+aM (λi=>ind (aI v (18+i)≠ -1)) 9+aM (λi=>ind (aI v (27+i)≠ -1)) 9:=by
 unfold j4;rw[show(36:Nat)=27+9 from rfl,sG _ 27 9,show(27:Nat)=18+9 from rfl,sG _ 18 9,show(18:Nat)=9+9 from rfl,sG _ 9 9]
theorem Jb (v:Vm) (k:Nat):aM (λi=>ind (aI v (9*k+i)≠ -1)) 9<=9*ind ((v.ps k).live=true):=by
 by_cases c:(v.ps k).live=true
 ·rw[bP c]
  have:=fV (f:=λi=>ind (aI v (9*k+i)≠ -1)) (g:=λ_=>1) (n:=9) λi _=>(dS _).2;rw[wP] at this;exact this
 ·rw[aY c,dM (g:=λ_=>0) (λi hi=>aY (not_not_intro (xI (by
   rw[show(9*k+i)/9=k by omega];cases h:(v.ps k).live with
   |false=>rfl
   |true=>exact absurd h c)))),fZ]
  omega
theorem aN0 (v:Vm):aM (λi=>ind (aI v i≠ -1)) 9<=9*ind ((v.ps 0).live=true):=by
 have:=Jb v 0;simpa only[Nat.mul_zero,Nat.zero_add] using this
theorem aEp (v:Vm):Ky v=ind ((v.ps 0).live=true)+ind ((v.ps 1).live=true)+ind ((v.ps 2).live=true)+ind ((v.ps 3).live=true):=by
 unfold Ky;simp[aM]
theorem aLd (v:Vm):j4 v<=9*Ky v:=by
 have a0:=aN0 v;have a1:aM (λi=>ind (aI v (9+i)≠ -1)) 9<=9*ind ((v.ps 1).live=true):=Jb v 1;have a2:aM (λi=>ind (aI v (18+i)≠ -1)) 9<=9*ind ((v.ps 2).live=true):=Jb v 2;have a3:aM (λi=>ind (aI v (27+i)≠ -1)) 9<=9*ind ((v.ps 3).live=true):=Jb v 3;rw[Kq,aEp];omega
theorem aFd {u:Vm} {c:Nat} (hc:c<4) (hd:(v.ps c).live=false) (h:∀t,t<36->t/9≠c->aI u t=aI v t):j4 u<=j4 v+9:=by
 have key:∀k,k<4->aM (λi=>ind (aI u (9*k+i)≠ -1)) 9<=aM (λi=>ind (aI v (9*k+i)≠ -1)) 9+(if k=c then 9 else 0):=λk hk=>by
  by_cases e:k=c
  ·subst e
   rw[if_pos rfl];have h1:=Jb u k;have h2:=(dS ((u.ps k).live=true)).2;have h3:=wQ (f:=λi=>ind (aI v (9*k+i)≠ -1)) (n:=9) (λi _=>(dS _).1);omega
  ·rw[if_neg e,dM (f:=λi=>ind (aI u (9*k+i)≠ -1)) (g:=λi=>ind (aI v (9*k+i)≠ -1)) (λi hi=>by rw[h (9*k+i) (by omega) (by omega)])]
   omega
 have a0:aM (λi=>ind (aI u i≠ -1)) 9<=aM (λi=>ind (aI v i≠ -1)) 9+(if 0=c then 9 else 0):=by
  have:=key 0 (by omega);simpa only[Nat.mul_zero,Nat.zero_add] using this
 have a1:aM (λi=>ind (aI u (9+i)≠ -1)) 9<=aM (λi=>ind (aI v (9+i)≠ -1)) 9+(if 1=c then 9 else 0):=key 1 (by omega);have a2:aM (λi=>ind (aI u (18+i)≠ -1)) 9<=aM (λi=>ind (aI v (18+i)≠ -1)) 9+(if 2=c then 9 else 0):=key 2 (by omega);have a3:aM (λi=>ind (aI u (27+i)≠ -1)) 9<=aM (λi=>ind (aI v (27+i)≠ -1)) 9+(if 3=c then 9 else 0):=key 3 (by omega);rw[Kq u,Kq v];have e:((if 0=c then 9 else 0)+(if 1=c then 9 else 0)+(if 2=c then 9 else 0)+(if 3=c then 9 else 0):Int)<=9:=by
  have:c=0\/c=1\/c=2\/c=3:=by omega
  rcases this with rfl|rfl|rfl|rfl<;>decide
 omega
theorem aLt (h:dX v ze ze []):Ky v<=jJ v:=by
 have A:=h.A;have h1:aM (λf=>aM (λk=>ind ((v.ps k).live=true/\(v.ps k).root=((f:Nat):Int))) 4) 64<=aM (λf=>min (v.rf f) 1) 64:=fV λf hf=>by
  by_cases c:∃k,k<4/\(v.ps k).live=true/\(v.ps k).root=((f:Nat):Int)
  ·obtain⟨k,hk,hv,hr⟩:=c
   rw[nX hk (λi hi hne=>aY λhh=>hne (by
    have e1:=pV hh.1;have e2:=pV hv;have:=A.td (9*i) (by omega) (9*k) (by omega) (by rw[e1,e2,hh.2,hr]) (by rw[e1,hh.2];omega)
    omega)),bP ⟨hv,hr⟩]
   have e2:=pV hv;have:=(A.tf (9*k) (by omega) (by rw[e2,hr];omega)).2;rw[e2,hr,Int.toNat_natCast] at this;rw[this];exact Int.le_refl _
  ·rw[dM (g:=λ_=>0) (λk hk=>aY λhh=>c ⟨k,hk,hh⟩),fZ]
   have:=h.V9 Ik f hf;omega
 rw[rO (λf k=>ind ((v.ps k).live=true/\(v.ps k).root=((f:Nat):Int)))] at h1;have h2:Ky v<=aM (λk=>aM (λf=>ind ((v.ps k).live=true/\(v.ps k).root=((f:Nat):Int))) 64) 4:=fV λk hk=>by
  by_cases c:(v.ps k).live=true
  ·have:=h.T.root k hk c
   rw[bP c,nX (j:=(v.ps k).root.toNat) (by omega) (λi hi hne=>aY λhh=>hne (by have:=hh.2;omega)),bP ⟨c,by omega⟩];exact Int.le_refl _
  ·rw[aY c]
   exact wQ λi _=>(dS _).1
 unfold jJ;rw[yB];omega
theorem aH9 (h:dX v ze ze []) (hd:∀k,k<4->(v.ps k).live=false):jJ v=0/\kU v=0:=by
 obtain⟨a,_,b,_⟩:=aDW h;have c:=aMa h;have d:=aLd v;have e:Ky v=0:=by
  rw[aEp,aY,aY,aY,aY]
  ·rfl
  all_goals (rw[hd _ (by omega)];decide)
 have f:full (aA v)=0:=by
  unfold full;rw[dM (g:=λ_=>0) (λi hi=>aY (not_not_intro (by unfold aA;rw[hd (i/64) (by omega)];rfl))),fZ]
 have g:=Nr h.F.dl;omega
theorem aKG (h:dX v ze ze []) {k:Nat} (hk:k<4) (hv:(v.ps k).live=true):1<=jJ v:=by
 have a:=aLt h;have b:=Dz (f:=λk=>ind ((v.ps k).live=true)) hk (λi _=>(dS _).1);simp only[bP hv] at b;unfold Ky at a;omega
end
theorem aBq (xs:List aL):0<=jJ (bS xs).1/\jJ (bS xs).1<=64/\0<=kU (bS xs).1/\kU (bS xs).1<=64:=aDW (oC xs).1.co
theorem aH8 (xs:List aL) (o:aL) (ho:o.kind=8):∃a,(bS (xs++ [o])).2=(bS xs).2++ [a]/\(a.err≠0->(bS (xs++ [o])).1=(bS xs).1)/\
 (a.err=0->jJ (bS xs).1+kU (bS xs).1<jJ (bS (xs++ [o])).1+kU (bS (xs++ [o])).1/\jJ (bS (xs++ [o])).1+kU (bS (xs++ [o])).1<=jJ (bS xs).1+kU (bS xs).1+9):=by
 obtain⟨S,_⟩:=oC xs;obtain⟨S2,_⟩:=oC (xs++ [o]);have e1:=Nr S.co.F.dl;have e2:=Nr S2.co.F.dl;rw[e1,e2];clear e1 e2;have hok:=aB4 xs;rw[Oj] at S2⊢;obtain⟨v,hv⟩:∃v,v=(bS xs).1:=⟨_,rfl⟩;rw[<-hv] at S S2⊢;refine⟨_,rfl,?_⟩;show(_->(iQ v o).1=v)/\(_->dL v<dL (iQ v o).1/\dL (iQ v o).1<=dL v+9);by_cases h3:o.proc<0\/4<=o.proc\/(v.ps o.proc.toNat).live=false
 ·have e:iQ v o=(v,aB 3):=by unfold iQ;rw[if_neg (by omega),if_neg (by omega),if_pos h3]
  rw[e];exact⟨λ_=>rfl,λhh=>by cases hh⟩
 ·have hl:(v.ps o.proc.toNat).live=true:=by
   cases hl:(v.ps o.proc.toNat).live with
   |true=>rfl
   |false=>exact absurd (.inr (.inr hl)) h3
  have e:iQ v o=lD v o.proc.toNat:=by unfold iQ;rw[if_neg (by omega),if_neg (by omega),if_neg h3,if_neg (by omega),if_neg (by omega),if_pos ho]
  rw[e];by_cases c:cZ v=4\/64<cK v+tot (v.ps o.proc.toNat).rg
  ·have e1:lD v o.proc.toNat=(v,aB 4):=by unfold lD;rw[if_pos c]
   rw[e1];exact⟨λ_=>rfl,λhh=>by cases hh⟩
  ·obtain⟨f,_,_⟩:=S.fork hok.Me (k:=o.proc.toNat) (by omega) hl
   obtain⟨_,n,_,F⟩:=f c;have e1:lD v o.proc.toNat=(iP (iN v o.proc.toNat (cZ v)) o.proc.toNat (cZ v) 64,⟨0,(cZ v:Int),0,0⟩):=by unfold lD;rw[if_neg c]
   obtain⟨hc,hd⟩:=Xr (v:=v) (λhh=>c (.inl hh));have hn:=aFd hc hd F.tab;have hu:=F.us;exact⟨λhh=>absurd (by rw[e1]) hh,λ_=>⟨hu.1,by omega⟩⟩
def G8 (k:Int):aL:=⟨9,k,0,0,0,0,false,0,0,0,0,0⟩
theorem aJt (W:Fw) {k:Nat} (hk:k<4):((mW W (G8 k)).1 k).live=false/\∀j,(W j).live=false->((mW W (G8 k)).1 j).live=false:=by
 have hd:mW W (G8 k)=if(W k).live=false then(W,aB 3) else(eO W k sV,aB 0):=by
  unfold mW G8;simp only[];rw[if_neg (by omega),if_neg (by omega),Int.toNat_natCast];by_cases h:(W k).live=false
  ·rw[if_pos (.inr (.inr h)),if_pos h]
  ·rw[if_neg (by rintro(a|a|a);omega;omega;exact h a),if_neg h,if_neg (by omega),if_neg (by omega),if_neg (by omega),if_pos trivial]
 rw[hd];by_cases h:(W k).live=false
 ·rw[if_pos h];exact⟨h,λj hj=>hj⟩
 ·rw[if_neg h]
  show(eO W k sV k).live=false/\∀j,(W j).live=false->(eO W k sV j).live=false;refine⟨by rw[dN];rfl,λj hj=> ?_⟩;by_cases e:j=k
  ·subst e;rw[dN];rfl
  ·rw[gL _ _ e];exact hj
def pE (xs:List aL) (k:Nat):List aL:=xs++(List.range k).map λ(i:Nat)=>G8 (i:Int)
theorem Xl (xs:List aL) (k:Nat):pE xs (k+1)=pE xs k++ [G8 (k:Int)]:=by
 unfold pE;rw[List.range_succ,List.map_append,List.append_assoc];rfl
theorem aFK (xs:List aL):∀n,n<=4->∀k,k<n->((dI (pE xs n)).1 k).live=false:=by
 intro n
 induction n with
 |zero=>intro _ k hk;omega
 |succ n ih=>
  intro hn k hk;obtain⟨a,b⟩:=aJt (dI (pE xs n)).1 (k:=n) (by omega);rw[Xl,p9];by_cases e:k=n
  ·subst e;exact a
  ·exact b k (ih (by omega) k (by omega))
theorem aGn (xs:List aL):jJ (bS (pE xs 4)).1=0/\kU (bS (pE xs 4)).1=0:=by
 obtain⟨S,_⟩:=oC (pE xs 4);exact aH9 S.co λk hk=>by rw[(S.eq k hk).1];exact aFK xs 4 (nR _) k hk
end
end Go.Proofs.YtoogfmbojlpjaaaGreat
namespace Go.Proofs.YtoogfmbojlpjaaaGreat
open Go.ChangeShapes Go.WideShapes Go.ChangeAt Go.RowKit Go.Joins Go.Sort
def Qn:List aL:=[⟨1,0,0,2,3,0,false,0,0,0,0,0⟩,⟨11,0,0,0,0,0,false,0,62,4,77,0⟩,⟨14,0,0,9,0,0,false,0,0,0,0,0⟩,⟨10,0,0,0,0,0,false,0,62,1,0,0⟩]
theorem aLx:(dI Qn).2.length=4/\(dI Qn).2[3]? =some ⟨0,77,0,0⟩:=by decide+kernel
theorem aIO:((dI Qn).1 0).live=true:=by decide+kernel
theorem aLw:1<=jJ (bS Qn).1:=by
 obtain⟨S,_⟩:=oC Qn;exact aKG S.co (k:=0) (by omega) (by rw[(S.eq 0 (by omega)).1];exact aIO)
abbrev c15:Array Value:= #[.int .i64 1,.int .i64 0,.int .i64 0,.int .i64 2,.int .i64 3,.int .i64 0,.bool false,.int .i64 0,.int .i64 0,.int .i64 0,.int .i64 0,.int .i64 0,.int .i64 11,.int .i64 0,.int .i64 0,.int .i64 0,.int .i64 0,.int .i64 0,.bool false,.int .i64 0,.int .i64 62,.int .i64 4,.int .i64 77,.int .i64 0,.int .i64 14,.int .i64 0,.int .i64 0,.int .i64 9,.int .i64 0,.int .i64 0,.bool false,.int .i64 0,.int .i64 0,.int .i64 0,.int .i64 0,.int .i64 0,.int .i64 10,.int .i64 0,.int .i64 0,.int .i64 0,.int .i64 0,.int .i64 0,.bool false,.int .i64 0,.int .i64 62,.int .i64 1,.int .i64 0,.int .i64 0]
theorem aKW {α:Type} {f:α->List Value} {sz:Nat} (hf:∀x,(f x).length=sz) {T:TypeId} {w:World} {g:Nat} {xs:List α} (h:Bx w g T (xs.flatMap f).toArray) (hl:xs.length<=maxLen):Rw f sz w w.heap.size (some ⟨g,0,none⟩) xs.length xs:=
 ⟨rfl,hl,λ_=>⟨g,0,rfl,h.lt,λi x hx j v hv=>by
   have hj:j<sz:=by have:=(List.getElem?_eq_some_iff.1 hv).1;rwa[hf] at this
   rw[h.cell,Nat.zero_add,List.getElem?_toArray,vM hf xs i x hx j hj,hv]⟩⟩
theorem Vv {w:World} {base:Nat} {v:Value} {l:List bX} (h:Os Gl 4 35 w base v l) (h0:0<l.length):∃g c,v=.slice (some ⟨g,0,none⟩) l.length c/\g<w.heap.size/\∀i a,l[i]? =some a->∀j u,(Gl a)[j]? =some u->w.cell? ⟨g,i*4+j,none⟩=some u:=by
 obtain⟨g,c,e,_,_,_⟩:=zZ h h0;subst e;obtain⟨A,c',e,_,_,hr⟩:=h.row tV;injection e with e1 e2 e3;subst e1;obtain⟨b,o,e,hb⟩:=hr.open h0;injection e with e;injection e with e1 e2;subst e1 e2;exact⟨_,c,rfl,hb,λi a ha j u hu=>by have:=hr.at_ tV ha j u hu;rwa[Nat.zero_add] at this⟩
theorem Io (w:World):Calls Tryz.prog 10 #[] w λe w'=>e=.returned (.bool true)/\Below w.heap.size w w':=by
 have HB0:=hZ (aD w (.cells c15 26));have HRW:=hZ (aKW (f:=vfO) (sz:=12) aDV (w:=w.alloc (.cells c15 26)) (T:=26) (g:=w.heap.size) (xs:=Qn) (Bx.new _ _ _) (by decide))
 have Qt:=hZ (J3 (some ⟨w.heap.size,0,none⟩) 4 4 Qn (w.alloc (.cells c15 26)) _ HRW.out (nR _) (by decide) (by
  intro x hx;simp only[Qn,List.mem_cons,List.not_mem_nil,or_false] at hx
  rcases hx with rfl|rfl|rfl|rfl<;>(unfold aL.fits eG;simp)) (Q8 _))
 go_enter Tryz.func10,Tryz.ntmps10
 go_wp2_with(first
  |(go_at_call 12
    refine Qt.out.mono ?_;rintro e w2 ⟨va,rfl,ha,hb2⟩;have hq:=aLw;generalize jJ (bS Qn).1=uf at*;generalize kU (bS Qn).1=us at*;rw[(oC Qn).2] at ha;obtain⟨hl,h3⟩:=aLx;obtain⟨g,c,rfl,hg,hc⟩:=Vv ha (by omega);rw[hl];have d0:w2.cell? ⟨g,13,none⟩=some (.int .i64 77):=hc 3 _ h3 1 _ rfl;have HS:Hid ((#[.int .i64 uf,.int .i64 us]:Array Value).size=2):=hZ rfl;have HO:Hid ((#[.int .i64 uf,.int .i64 us]:Array Value).all (·.oneCell')=true):=hZ (by simp[Value.oneCell']);have HB2:=hZ (HB0.out.trans (hb2.mono HB0.out.size));have k0:(w2.alloc (.cells #[.int .i64 uf,.int .i64 us] 29)).cell? ⟨w2.heap.size,0,none⟩=some (.int .i64 uf):=by rw[(Bx.new _ _ _).cell];rfl
    have hq2:decide (1<=uf)=true:=decide_eq_true hq
    clear ha hc h3 hb2)
  |((with_reducible refine uM tJ #[.int .i64 uf,.int .i64 us] ?_ ?_ rfl HS.out HO.out ?_);rfl;rfl))
 go_ret;exact⟨bH rfl,HB2.out.trans ((aD _ _).mono HB2.out.size)⟩
theorem aJl {k:Int} (h:eG k):(G8 k).fits:=by unfold aL.fits G8;unfold eG at*;simp;omega
theorem aFL {xs:List aL} (h:∀x∈xs,x.fits) (n:Nat) (hn:n<=4):∀x∈pE xs n,x.fits:=by
 intro x hx;unfold pE at hx;rcases List.mem_append.1 hx with hx|hx
 ·exact h x hx
 ·obtain⟨i,hi,rfl⟩:=List.mem_map.1 hx
  have:=List.mem_range.1 hi;exact aJl (by unfold eG;omega)
theorem aAH (xs:List aL) (n:Nat):(pE xs n).length=xs.length+n:=by unfold pE;simp
theorem Tx {w:World} {B:Nat} {v:Value} {xs:List aL} (h:Os fO 12 26 w B v xs) (hl:xs.length<=4398046511103) (hf:∀x∈xs,x.fits):Calls Tryz.prog 12 #[v] w (vR w xs):=by
 obtain⟨A',c',rfl,h1,h2,h3⟩:=h.row uZ;exact J3 A' _ c' xs w _ h3 (nR _) hl hf (Q8 xs)
theorem aBm {w:World} (A:Option Addr) (n c:Nat) (xs:List aL) (hz:Rw fO 12 w w.heap.size A n xs) (hwf:∀x∈xs,x.fits) (hcap:n<=c) (_:c<=maxLen) (hbig:c<=1466015503658):
 Calls Tryz.prog 3 #[.slice A n c] w λe w'=>e=.returned (.bool true)/\Below w.heap.size w w':=by
 have hln:=hz.1;have HAL:=hZ (Io w);have aJ4:Hid (∀w',Below w.heap.size w w'->Calls Tryz.prog 11 #[.slice A n c] w' λe w''=>∃v,e=.returned v/\Os fO 12 26 w'' w'.heap.size v xs/\Below w'.heap.size w' w''):=hZ (λw' hb=>aEI A n c xs w' w'.heap.size (hz.on hb (nR _)) (nR _) (by omega));have Qt:Hid (∀w' (b:Nat) v,Os fO 12 26 w' b v (pE xs 4)->Calls Tryz.prog 12 #[v] w' (vR w' (pE xs 4))):=hZ (λw' b v h=>Tx h (by rw[aAH];omega) (aFL hwf 4 (by omega)));have Te:=hZ (aGn xs);have jN:=hZ hln;have hnn:n<=1466015503658:=by omega
 clear hz hwf hln;go_enter Tryz.func3,Tryz.ntmps3
 go_wp2_with(first
  |(go_at_call 10;refine HAL.out.mono ?_;rintro e w1 ⟨rfl,hb1⟩;have HB1:=hZ hb1;clear hb1)
  |(go_at_call 11
    refine(aJ4.out w1 HB1.out).mono ?_;rintro e w2 ⟨v2,rfl,ho2,hb2⟩;have rX:=hZ ho2;have HB2:=hZ hb2
    clear ho2 hb2))
 go_loopw [11,3] (λi o wr=>∃k:Nat,k<=4/\i=.int .i64 k/\Hid (Os fO 12 26 wr w1.heap.size o (pE xs k))/\Hid (Below w1.heap.size w1 wr)) (λi _ _=>4 - (intOf i).toNat)
 case atStart=>exact⟨0,by omega,rfl,hZ (by rw[show pE xs 0=xs from by unfold pE;simp];exact rX.out),HB2⟩
 case round=>
  obtain⟨k,hk,rfl,HO,HB⟩:=hrel;by_cases hlt:k<4
  ·have uH:=hZ (Xl xs k)
   have HEL:=hZ (aAH xs k);obtain⟨ys,hys⟩:∃ys,ys=pE xs k:=⟨_,rfl⟩;rw[<-hys] at HO uH HEL;clear hys;have hbs:=HB.out.size
   go_wp2_with(at_builtin;refine nW Tryz.underlying22 Pf rfl (by decide) uZ Jg rfl _ _ rfl w1.heap.size u3 ys wr (G8 (k:Int)) wr.heap.size rfl rfl rfl HO.out hbs (by have:=HEL.out;have:=jN.out;unfold maxLen;omega) (by have:=HEL.out;have:=jN.out;omega) ?_
               intro g' c' w3 ho3 hb3 hg3 hn3 hc3)
   go_roundw
   case rel=>exact⟨k+1,by omega,by go_num,hZ (by rw[uH.out];exact ho3),hZ (HB.out.trans hb3)⟩
   case measure=>simp[intOf];omega
  ·have hk4:k=4:=by omega
   subst hk4;have vT:=hZ (HB1.out.trans (HB.out.mono HB1.out.size))
   go_wp2_with(first
    |(go_at_call 12
      refine(Qt.out wr _ _ HO.out).mono ?_;rintro e w4 ⟨va,rfl,ha,hb4⟩;rw[Te.out.1,Te.out.2];have qQ:=hZ (vT.out.trans (hb4.mono vT.out.size));have HS:Hid ((#[.int .i64 0,.int .i64 0]:Array Value).size=2):=hZ rfl;have zF:Hid ((#[.int .i64 0,.int .i64 0]:Array Value).all (·.oneCell')=true):=hZ (by simp[Value.oneCell']);have HX:=hZ (Bx.new w4 29 #[.int .i64 0,.int .i64 0])
      clear ha hb4)
    |((with_reducible refine uM tJ #[.int .i64 0,.int .i64 0] ?_ ?_ rfl HS.out zF.out ?_);rfl;rfl)
    |((with_reducible refine qW Tryz.underlying29 rfl tJ w4.heap.size 0 #[.int .i64 0,.int .i64 0] ?_ ?_ HX.out (Sub.all _) HS.out ?_);rfl;rfl))
   go_ret;exact⟨bH rfl,qQ.out.trans ((aD _ _).mono qQ.out.size)⟩
end Go.Proofs.YtoogfmbojlpjaaaGreat
namespace Go.Proofs.YtoogfmbojlpjaaaGreat
section
inductive Ins (ops:List aL):Nat->List aL->Prop
 |nil:Ins ops 0 []
 |skip {m:Nat} {ys:List aL} {r:aL} :Ins ops m ys->r.kind=14->Ins ops m (ys++ [r])
 |keep {m:Nat} {ys:List aL} {o:aL} :Ins ops m ys->ops[m]? =some o->Ins ops (m+1) (ys++ [o])
def xP (a b:aL):Bool:=a.kind==b.kind&&a.proc==b.proc&&a.page==b.page&&a.count==b.count&&a.eZ==b.eZ&&a.key==b.key&&a.tagged==b.tagged&&a.draw==b.draw&&a.addr==b.addr&&a.size==b.size&&a.value==b.value&&a.tag==b.tag
theorem aLT {a b:aL} :xP a b=true↔a=b:=by
 cases a;cases b;simp[xP,and_assoc]
def Dl (ops:List aL) (k:Nat) (o:aL):Bool:=match ops[k]? with
 |some p=>xP o p
 |none=>false
def eP (ops ys:List aL) (b:List bX):Nat->List bX×Nat
 |0=>([],0)
 |i+1=>if Dl ops (eP ops ys b i).2 (ys.getD i (G8 0))=true then((eP ops ys b i).1++ [b.getD i (aB 0)],(eP ops ys b i).2+1) else eP ops ys b i
theorem Gg {ops:List aL} {k:Nat} {o:aL} :Dl ops k o=true↔ops[k]? =some o:=by
 unfold Dl;cases h:ops[k]? with
 |none=>simp
 |some p=>rw[aLT];exact⟨λe=>by rw[e],λe=>(Option.some.inj e).symm⟩
structure Lv (ops ys:List aL) (m i:Nat):Prop where
 w:(dI (ys.take i)).1=(dI (ops.take m)).1
 a:(eP ops ys (dI ys).2 i).1=(dI (ops.take (eP ops ys (dI ys).2 i).2)).2
 l:m<=(eP ops ys (dI ys).2 i).2
 u:(eP ops ys (dI ys).2 i).2<=ops.length
 r:∀j o,m<=j->j<(eP ops ys (dI ys).2 i).2->ops[j]? =some o->o.kind=14
theorem Rq (W:Fw) {o:aL} (h:o.kind=14):mW W o=(W,aB 0):=by unfold mW;rw[if_neg (by omega),if_pos h]
theorem Gq (l:List aL):(dI l).2.length=l.length:=by unfold dI;rw[aKX];simp
theorem aD8 (ys:List aL) {i:Nat} (hi:i<ys.length):(dI ys).2.getD i (aB 0)=(mW (dI (ys.take i)).1 ys[i]).2:=by
 have key:∀n,n<=ys.length->i<n->(dI (ys.take n)).2.getD i (aB 0)=(mW (dI (ys.take i)).1 ys[i]).2:=by
  intro n
  induction n with
  |zero=>intro _ h;omega
  |succ n ih=>
   intro hn hin;rw[List.take_succ_eq_append_getElem (show n<ys.length by omega),p9];show((dI (ys.take n)).2++ [_]).getD i (aB 0)=_;have hl:(dI (ys.take n)).2.length=n:=by rw[Gq,List.length_take];omega
   by_cases c:i<n
   ·rw[<-ih (by omega) c]
    simp only[List.getD_eq_getElem?_getD];rw[List.getElem?_append_left (by omega)]
   ·obtain rfl:i=n:=by omega
    simp only[List.getD_eq_getElem?_getD];rw[List.getElem?_append_right (by omega),hl];simp
 have:=key ys.length (nR _) hi;rwa[List.take_length] at this
section
variable {ops ys:List aL} {m i:Nat}
theorem Lv.skip (h:Lv ops ys m i) {r:aL} (hr:ys[i]? =some r) (hk:r.kind=14):Lv ops ys m (i+1):=by
 obtain⟨hi,he⟩:=List.getElem?_eq_some_iff.1 hr;have hw:(dI (ys.take (i+1))).1=(dI (ops.take m)).1:=by
  rw[List.take_succ_eq_append_getElem hi,p9,he,Rq _ hk];exact h.w
 have ha:(dI ys).2.getD i (aB 0)=aB 0:=by rw[aD8 ys hi,he,Rq _ hk]
 have hd:ys.getD i (G8 0)=r:=by rw[List.getD_eq_getElem?_getD,hr];rfl
 by_cases c:Dl ops (eP ops ys (dI ys).2 i).2 (ys.getD i (G8 0))=true
 ·have e:eP ops ys (dI ys).2 (i+1)=((eP ops ys (dI ys).2 i).1++ [(dI ys).2.getD i (aB 0)],(eP ops ys (dI ys).2 i).2+1):=by rw[eP,if_pos c]
  have h1:=h.a;have h2:=h.l;have h3:=h.r;rw[hd] at c;have c1:=(Gg.1 c).symm;have c2:=(List.getElem?_eq_some_iff.1 c1.symm).1;refine⟨hw,?_,by rw[e];show m<=_+1;omega,by rw[e];exact c2,λj o hj hj2 ho=> ?_⟩
  ·rw[e]
   show _++ [_]=(dI (ops.take (_+1))).2;rw[List.take_succ_eq_append_getElem c2,p9,ha,h1];have:ops[(eP ops ys (dI ys).2 i).2]=r:=by
    have:=(List.getElem?_eq_getElem c2).symm.trans c1.symm;exact Option.some.inj this
   rw[this,Rq _ hk]
  ·rw[e] at hj2
   by_cases d:j<(eP ops ys (dI ys).2 i).2
   ·exact h3 j o hj d ho
   ·have C8:j<(eP ops ys (dI ys).2 i).2+1:=hj2
    obtain rfl:j=(eP ops ys (dI ys).2 i).2:=by omega
    rw[ho] at c1;rw[<-Option.some.inj c1];exact hk
 ·have e:eP ops ys (dI ys).2 (i+1)=eP ops ys (dI ys).2 i:=by rw[eP,if_neg c]
  exact⟨hw,by rw[e];exact h.a,by rw[e];exact h.l,by rw[e];exact h.u,λj o hj hj2 ho=>by rw[e] at hj2;exact h.r j o hj hj2 ho⟩
theorem Lv.keep (h:Lv ops ys m i) {o:aL} (hr:ys[i]? =some o) (ho:ops[m]? =some o):Lv ops ys (m+1) (i+1):=by
 obtain⟨hi,he⟩:=List.getElem?_eq_some_iff.1 hr;obtain⟨hm,hme⟩:=List.getElem?_eq_some_iff.1 ho;by_cases d:(eP ops ys (dI ys).2 i).2=m
 ·have hw:(dI (ys.take (i+1))).1=(dI (ops.take (m+1))).1:=by
   rw[List.take_succ_eq_append_getElem hi,List.take_succ_eq_append_getElem hm,p9,p9,he,hme,h.w]
  have ha:(dI ys).2.getD i (aB 0)=(mW (dI (ops.take m)).1 o).2:=by rw[aD8 ys hi,he,h.w]
  have e:eP ops ys (dI ys).2 (i+1)=((eP ops ys (dI ys).2 i).1++ [(dI ys).2.getD i (aB 0)],(eP ops ys (dI ys).2 i).2+1):=by rw[eP,if_pos (Gg.2 (by rw[d,List.getD_eq_getElem?_getD,hr];exact ho))]
  refine⟨hw,?_,by rw[e];show m+1<=_+1;omega,by rw[e];show _+1<=_;omega,λj o' hj hj2 ho'=> ?_⟩
  ·rw[e]
   show _++ [_]=(dI (ops.take (_+1))).2;rw[d,List.take_succ_eq_append_getElem hm,p9,ha,h.a,d,hme]
  ·rw[e] at hj2
   have C8:j<(eP ops ys (dI ys).2 i).2+1:=hj2;omega
 ·have hl:=h.l
  have hk:o.kind=14:=h.r m o (nR _) (by omega) ho;have s:=h.skip hr hk;have hs:(eP ops ys (dI ys).2 i).2<=(eP ops ys (dI ys).2 (i+1)).2:=by
   rw[eP];split
   ·exact Nat.le_succ _
   ·exact nR _
  refine⟨?_,s.a,by omega,s.u,λj o' hj=>s.r j o' (by omega)⟩;rw[s.w,List.take_succ_eq_append_getElem hm,p9,hme,Rq _ hk]
theorem Ins.lef {zs:List aL} (h:Ins ops m zs):zs<+:ys->Lv ops ys m zs.length:=by
 induction h with
 |nil=>intro _;exact⟨rfl,rfl,nR _,Nat.zero_le _,λj o _ hj=>by cases hj⟩
 | @skip m zs r _ hk ih=>
   intro hp;have h1:=ih ((List.prefix_append zs [r]).trans hp);rw[List.length_append];refine h1.skip ?_ hk;obtain⟨t,ht⟩:=hp;rw[<-ht];simp
 | @keep m zs o _ ho ih=>
   intro hp;have h1:=ih ((List.prefix_append zs [o]).trans hp);rw[List.length_append];refine h1.keep ?_ ho;obtain⟨t,ht⟩:=hp;rw[<-ht];simp
end
theorem aLu {ops ys:List aL} (h:Ins ops ops.length ys):(eP ops ys (bS ys).2 ys.length).1=(bS ops).2:=by
 have L:=h.lef (List.prefix_refl ys);rw[(oC ys).2,(oC ops).2,L.a];have a:=L.l;have b:=L.u;rw[show(eP ops ys (dI ys).2 ys.length).2=ops.length by omega,List.take_length]
end
end Go.Proofs.YtoogfmbojlpjaaaGreat
namespace Go.Proofs.YtoogfmbojlpjaaaGreat
open Go.ChangeShapes Go.WideShapes Go.ChangeAt Go.RowKit Go.Joins Go.Sort
def Ey (k:Int):aL:=⟨8,k,0,0,0,0,false,0,0,0,0,0⟩
theorem aHq {k:Int} (h:eG k):(Ey k).fits:=by unfold aL.fits Ey;unfold eG at*;simp;omega
theorem aGL {xs:List aL} {o:aL} (h:∀x∈xs,x.fits) (ho:o.fits):∀x∈xs++ [o],x.fits:=by
 intro x hx;rcases List.mem_append.1 hx with hx|hx
 ·exact h x hx
 ·rw[List.mem_singleton.1 hx];exact ho
theorem aA2 {w:World} (A:Option Addr) (n c:Nat) (xs:List aL) (hz:Rw fO 12 w w.heap.size A n xs) (hwf:∀x∈xs,x.fits) (hcap:n<=c) (_:c<=maxLen) (hbig:c<=1466015503658) (p:Int) (hp:eG p):
 Calls Tryz.prog 4 #[.slice A n c,.int .i64 p] w λe w'=>e=.returned (.bool true)/\Below w.heap.size w w':=by
 have hln:=hz.1;have HAL:=hZ (Io w);have Qt:Hid (∀w',Below w.heap.size w w'->Calls Tryz.prog 12 #[.slice A n c] w' (vR w' xs)):=hZ (λw' hb=>J3 A n c xs w' w'.heap.size (hz.on hb (nR _)) (nR _) (by omega) hwf (Q8 xs));have aJ4:Hid (∀w',Below w.heap.size w w'->Calls Tryz.prog 11 #[.slice A n c] w' λe w''=>∃v,e=.returned v/\Os fO 12 26 w'' w'.heap.size v xs/\Below w'.heap.size w' w''):=hZ (λw' hb=>aEI A n c xs w' w'.heap.size (hz.on hb (nR _)) (nR _) (by omega));have Zx:Hid (∀w' (b:Nat) v,Os fO 12 26 w' b v (xs++ [Ey p])->Calls Tryz.prog 12 #[v] w' (vR w' (xs++ [Ey p]))):=hZ (λw' b v h=>Tx h (by simp;omega) (aGL hwf (aHq hp)));obtain⟨an,ea,hE,hF⟩:=aH8 xs (Ey p) rfl;have U1:=aBq xs;have U2:=aBq (xs++ [Ey p]);have De:Hid ((bS xs).2.length=n):=hZ (by rw[(oC xs).2,Gq,hln]);have HEA:=hZ ea;have Nc:Hid (an.err≠0->jJ (bS (xs++ [Ey p])).1=jJ (bS xs).1/\kU (bS (xs++ [Ey p])).1=kU (bS xs).1):=hZ (λh=>by rw[hE h];exact⟨rfl,rfl⟩);have jN:=hZ hln;have hnn:n<=1466015503658:=by omega
 clear hz hwf hln ea hE hp;obtain⟨rA,hA⟩:∃rA,rA=vR w:=⟨_,rfl⟩;unfold vR at Qt Zx;generalize jJ (bS (xs++ [Ey p])).1=vf at*;generalize kU (bS (xs++ [Ey p])).1=vs at*;generalize jJ (bS xs).1=uf at*;generalize kU (bS xs).1=us at*;clear hA rA;have HS:Hid ((#[.int .i64 uf,.int .i64 us]:Array Value).size=2):=hZ rfl;have HO:Hid ((#[.int .i64 uf,.int .i64 us]:Array Value).all (·.oneCell')=true):=hZ (by simp[Value.oneCell']);have HS2:Hid ((#[.int .i64 vf,.int .i64 vs]:Array Value).size=2):=hZ rfl;have rX:Hid ((#[.int .i64 vf,.int .i64 vs]:Array Value).all (·.oneCell')=true):=hZ (by simp[Value.oneCell']);go_enter Tryz.func4,Tryz.ntmps4
 go_upto_region 5 with(first
  |(go_at_call 10;refine HAL.out.mono ?_;rintro e w1 ⟨rfl,hb1⟩;have HB1:=hZ hb1;clear hb1)
  |(go_at_call 12
    refine(Zx.out w4 _ _ zF.out).mono ?_;rintro e w5 ⟨va5,rfl,ha5,hb5⟩;rw[HEA.out] at ha5;obtain⟨g5,c5,rfl,hg5,hc5⟩:=Vv ha5 (by simp);have Nf:Hid (w5.cell? ⟨g5,n*4,none⟩=some (.int .i64 an.err)):=hZ (hc5 n an (by rw[List.getElem?_append_right (by rw[De.out];exact nR _),De.out,Nat.sub_self];rfl) 0 _ rfl);have HL5:Hid (((bS xs).2++ [an]).length=n+1):=hZ (by rw[List.length_append,De.out];rfl);have vU:=hZ (qQ.out.trans (hb5.mono qQ.out.size));have Qq:=hZ (Ce.out.below hb5);rw[HL5.out]
    clear ha5 hb5 hc5)
  |(go_at_call 12
    refine(Qt.out w1 HB1.out).mono ?_;rintro e w2 ⟨va,rfl,ha,hb2⟩;have HB2:=hZ ((HB1.out.trans (hb2.mono HB1.out.size)).trans ((aD w2 (.cells #[.int .i64 uf,.int .i64 us] 29)).mono ((HB1.out.trans (hb2.mono HB1.out.size)).size)));have Db:=hZ (Bx.new w2 29 #[.int .i64 uf,.int .i64 us])
    clear ha hb2)
  |((with_reducible refine uM tJ #[.int .i64 uf,.int .i64 us] ?_ ?_ rfl HS.out HO.out ?_);rfl;rfl)
  |(go_at_call 11
    refine(aJ4.out _ HB2.out).mono ?_;rintro e w3 ⟨v3,rfl,ho3,hb3⟩;have HB3:=hZ (HB2.out.trans (hb3.mono HB2.out.size));have wG:=hZ (Db.out.below hb3);obtain⟨B,hB⟩:∃B,B=(w2.alloc (.cells #[.int .i64 uf,.int .i64 us] 29)).heap.size:=⟨_,rfl⟩;rw[<-hB] at ho3 hb3;have hB2:w2.heap.size<B:=by simp[hB]
    have hB3:B<=w3.heap.size:=by have h:=hb3.size;rw[<-hB] at h;exact h
    have hBw:w.heap.size<=B:=by have h:=HB2.out.size;rw[<-hB] at h;exact h
    have Ht:=hZ ho3
    clear ho3 hb3 hB)
  |(at_builtin;refine nW Tryz.underlying22 Pf rfl (by decide) uZ Jg rfl _ _ rfl B v3 xs w3 (Ey p) w3.heap.size rfl rfl rfl Ht.out hB3 (by have:=jN.out;unfold maxLen;omega) (by have:=jN.out;omega) ?_
    intro g4 c4 w4 jH hb4 hg4 hn4 hc4;have qQ:=hZ (HB3.out.trans (hb4.mono hBw));have Ce:Hid (Bx w4 w2.heap.size 29 #[.int .i64 uf,.int .i64 us]):=hZ ((hb4.block _ hB2).trans wG.out);have zF:=hZ jH
    clear jH hb4)
  |((with_reducible refine uM tJ #[.int .i64 vf,.int .i64 vs] ?_ ?_ rfl HS2.out rX.out ?_);rfl;rfl))
 have hb6:=aD w5 (.cells #[.int .i64 vf,.int .i64 vs] 29);have HY6:=hZ (Bx.new w5 29 #[.int .i64 vf,.int .i64 vs]);have Ye:=hZ (Qq.out.below hb6);have nN:=hZ (vU.out.trans (hb6.mono vU.out.size));have c6:(w5.alloc (.cells #[.int .i64 vf,.int .i64 vs] 29)).cell? ⟨g5,n*4,none⟩=some (.int .i64 an.err):=by
  rw[(wO hb6).1 _ _ hg5];exact Nf.out
 obtain⟨w6,xO⟩:∃w6,w6=w5.alloc (.cells #[.int .i64 vf,.int .i64 vs] 29):=⟨_,rfl⟩;obtain⟨q5,hq5⟩:∃q5,q5=w5.heap.size:=⟨_,rfl⟩;obtain⟨q2,hq2⟩:∃q2,q2=w2.heap.size:=⟨_,rfl⟩;rw[<-xO] at HY6 Ye nN c6⊢;rw[<-hq5] at HY6⊢;rw[<-hq2] at Ye⊢;clear xO hq5 hq2 hb6 Nf Qq vU Ce qQ wG HB3 Db HB2;have k0:w6.cell? ⟨q2,0,none⟩=some (.int .i64 uf):=by rw[Ye.out.cell];rfl
 have k1:w6.cell? ⟨q2,1,none⟩=some (.int .i64 us):=by rw[Ye.out.cell];rfl
 have k2:w6.cell? ⟨q5,0,none⟩=some (.int .i64 vf):=by rw[HY6.out.cell];rfl
 have k3:w6.cell? ⟨q5,1,none⟩=some (.int .i64 vs):=by rw[HY6.out.cell];rfl
 have hn1:IntKind.i64.wrap ((n:Int)+1)=((n+1:Nat):Int):=by rw[IntKind.wrap_i64];omega
 have hn2:(((n+1:Nat):Int) !=((n+1:Nat):Int))=false:=by simp
 have hn3:(((n+1:Nat):Int)==((n+1:Nat):Int))=true:=by simp
 by_cases he:an.err=0
 ·have hF':=hF he
  have e1:IntKind.i64.wrap (vf+vs)=vf+vs:=by rw[IntKind.wrap_i64];omega
  have e2:IntKind.i64.wrap (uf+us)=uf+us:=by rw[IntKind.wrap_i64];omega
  have e3:IntKind.i64.wrap (uf+us+1)=uf+us+1:=by rw[IntKind.wrap_i64];omega
  have e4:IntKind.i64.wrap (uf+us+1+8)=uf+us+9:=by rw[IntKind.wrap_i64];omega
  have e5:(an.err !=0)=false:=by rw[he];rfl
  have e6:uf+us<vf+vs:=hF'.1;have e7:vf+vs<=uf+us+9:=hF'.2;go_wp2;go_ret;exact⟨bH rfl,nN.out⟩
 ·obtain⟨ef,es⟩:=Nc.out he
  subst ef es;have e5:(an.err !=0)=true:=by simp[he]
  go_wp2_with(first
   |((with_reducible refine qW Tryz.underlying29 rfl tJ q2 0 #[.int .i64 vf,.int .i64 vs] ?_ ?_ Ye.out (Sub.all _) HS2.out ?_);rfl;rfl)
   |((with_reducible refine qW Tryz.underlying29 rfl tJ q5 0 #[.int .i64 vf,.int .i64 vs] ?_ ?_ HY6.out (Sub.all _) HS2.out ?_);rfl;rfl))
  go_ret;exact⟨bH rfl,nN.out⟩
end Go.Proofs.YtoogfmbojlpjaaaGreat
