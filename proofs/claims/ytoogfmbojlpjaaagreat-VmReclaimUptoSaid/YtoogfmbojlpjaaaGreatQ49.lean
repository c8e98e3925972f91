/- Lemmas. -/
import Derived.Test.YtoogfmbojlpjaaaGreatQ48
import Derived.Test.YtoogfmbojlpjaaaGreatQ32
import Derived.Test.YtoogfmbojlpjaaaGreatQA
set_option maxRecDepth 100000
set_option maxHeartbeats 32000000
set_option linter.unusedVariables false
set_option linter.unusedSimpArgs false
namespace Go.Proofs.YtoogfmbojlpjaaaGreat
section
section
variable {e:Nat->iD} {tb:Nat->Int} {rf:Nat->Int} {fx:Nat->Bool} {sr:Nat->Int} {x y:Nat->Int} {W:List Nat}
theorem iH.aKd (h:iH e tb rf fx sr x y W) {q f:Nat} (hq:q<36) (hf:tb q=f) (h64:f<64) (hx:x f=0) (hn:∀i,i<256->9*(i/64)+1+i%64/8=q->(e i).1=0):
 rf f=1/\fx f=true/\iH e (λt=>if t=q then -1 else tb t) (aO rf f 0) (dV fx f false) sr x y W:=by
 obtain⟨f1,r1⟩:=h.tf q hq (by omega);rw[hf,Int.toNat_natCast] at f1 r1;have hne:∀t,t<36->t≠q->tb t≠f:=λt ht hne hh=>hne (h.td t ht q hq (by rw[hh,hf]) (by omega));have hce:dE e (1,(f:Int))=0:=aAQ λi hi hh=>h.et i hi (by rw[hh]) q hq (by rw[hh,hf]);refine⟨r1,f1,⟨h.er,h.x0,h.y0,λt ht=> ?_,λt ht t' ht' a b=> ?_,λt ht a=> ?_,λi hi a t ht=> ?_,λg hg a=> ?_,h.sy,h.y1,h.pg,h.all,λg hg a=> ?_,λi hi a=> ?_⟩⟩
 ·show(if t=q then(-1:Int) else tb t)= -1\/_
  by_cases c:t=q
  ·rw[if_pos c];exact .inl rfl
  ·simp only[if_neg c];exact h.tr t ht
 ·try simp only at a b
  by_cases c:t=q
  ·rw[if_pos c] at b;exact absurd rfl b
  ·rw[if_neg c] at a b
   by_cases c':t'=q
   ·rw[if_pos c'] at a;exact absurd a b
   ·rw[if_neg c'] at a;exact h.td t ht t' ht' a b
 ·try simp only at a⊢
  by_cases c:t=q
  ·rw[if_pos c] at a;exact absurd rfl a
  ·rw[if_neg c] at a⊢
   obtain⟨b1,b2⟩:=h.tf t ht a;have b3:=h.tr t ht;have b4:=hne t ht c;unfold dV aO;rw[if_neg (by omega),if_neg (by omega)];exact⟨b1,b2⟩
 ·try simp only
  by_cases c:t=q
  ·rw[if_pos c];have:=nH (h.er i hi);omega
  ·rw[if_neg c];exact h.et i hi a t ht
 ·by_cases c:g=f
  ·subst c;rw[vH,hce,hx];rfl
  ·unfold aO;rw[if_neg c]
   refine h.fr g hg λt ht=> ?_;have:=a t ht;try simp only at this
   by_cases d:t=q
   ·subst d;omega
   ·rw[if_neg d] at this;exact this
 ·unfold dV at a
  by_cases c:g=f
  ·rw[if_pos c] at a;cases a
  ·rw[if_neg c] at a
   rcases h.fw g hg a with⟨t,t1,t2⟩|b
   ·exact .inl ⟨t,t1,by rw[if_neg (λd=>c (by subst d;omega))];exact t2⟩
   ·exact .inr b
 ·try simp only
  by_cases c:9*(i/64)+1+i%64/8=q
  ·exact absurd (hn i hi c) a
  ·rw[if_neg c];exact h.lf i hi a
end
structure Lvs (E u:Vm) (k n:Nat):Prop where
 zs:u.zs=E.zs
 ps:u.ps=E.ps
 ts:u.ts=E.ts
 dv:u.dv=E.dv
 tl:u.tl=E.tl
 hd:u.hd=E.hd
 ul:u.us.length=64
 A:iH (aA E) (λt=>if 9*k+1<=t/\t<9*k+1+n then -1 else aI E t) u.rf u.fx (eB E) ze ze []
theorem aCO (v:Vm) {f:Nat} :lC v (f:Int)= { v with fx:=dV v.fx f false,rf:=aO v.rf f (v.rf f -1),us:=if v.rf f -1=0 then v.us.set f false else v.us } :=by
 unfold lC bO;rw[if_pos rfl,Int.toNat_natCast]
theorem aAv {E:Vm} (h:dX E ze ze []) {k:Nat} (hk:k<4) (hv:(E.ps k).live=true) (hn:∀p,p<64->aA E (64*k+p)=(0,0)):∀n,n<=8->Lvs E (bT E (E.ps k).root n) k n/\
 ∀m,m<n->aG E.zs (E.ps k).root ((8*m:Nat):Int)=3\/(aG E.zs (E.ps k).root ((8*m:Nat):Int)=0/\∃f:Nat,aK E.zs (E.ps k).root ((8*m:Nat):Int)=f/\f<64/\kR (bT E (E.ps k).root m).rf/\(bT E (E.ps k).root m).rf f≠0)
 |0,_=>⟨⟨rfl,rfl,rfl,rfl,rfl,rfl,h.F.ul,h.A.congr (λ_ _=>rfl) (λt _=>by rw[if_neg (by omega)]) (λ_ _=>rfl) (λ_ _=>rfl) (λ_ _=>rfl)⟩,λm hm=>absurd hm (Nat.not_lt_zero _)⟩
 |n+1,hn8=>by
  obtain⟨L,hO⟩:=aAv h hk hv hn n (by omega);obtain⟨u,hu⟩:∃u,u=bT E (E.ps k).root n:=⟨_,rfl⟩;rw[<-hu] at L;have hst:bT E (E.ps k).root (n+1)=Dp (E.ps k).root u n:=by rw[Et,<-hu]
  have htab:=pW hv (show 8*n<64 by omega);rw[show 8*n/8=n by omega] at htab;rcases h.T.leaf k hk hv (8*n) (by omega) with h0|h3
  ·obtain⟨f,hf⟩:∃f:Nat,aK E.zs (E.ps k).root ((8*n:Nat):Int)=f:=⟨_,(Int.toNat_of_nonneg (wZ _ _ _).1).symm⟩
   have h64:f<64:=by have:=(wZ E.zs (E.ps k).root ((8*n:Nat):Int)).2;omega
   rw[if_pos h0,hf] at htab
   obtain⟨r1,f1,A1⟩:=L.A.aKd (q:=9*k+1+n) (f:=f) (by omega) (by rw[if_neg (by omega)];exact htab) h64 rfl (λi hi hq=>by
    obtain⟨k',p',a1,a2,rfl⟩:=Br hi;have:k'=k:=by omega
    rw[this,hn p' a2])
   have e:Dp (E.ps k).root u n=lC u f:=by unfold Dp;rw[L.zs,if_pos h0,hf]
   have aIY:kR u.rf:=by
    have c2:∀g,g<64->0<=u.rf g/\u.rf g<=4:=λg hg=>by
     by_cases ht:∃t,t<36/\(if 9*k+1<=t/\t<9*k+1+n then(-1:Int) else aI E t)=g
     ·obtain⟨t,t1,t2⟩:=ht
      have:=(L.A.tf t t1 (by omega)).2;try simp only at this
      rw[t2,Int.toNat_natCast] at this;omega
     ·have a1:=L.A.fr g hg (λt t1 t2=>ht ⟨t,t1,t2⟩)
      have a2:=oJ (aA E) (1,(g:Int));have a3:=L.A.four (z:=(1,(g:Int))) (by simp);unfold ze at a1;omega
    exact λg hg=>⟨(c2 g hg).1,by have:=(c2 g hg).2;omega⟩
   refine⟨?_,λm hm=> ?_⟩
   ·rw[hst,e,aCO,r1]
    refine⟨L.zs,L.ps,L.ts,L.dv,L.tl,L.hd,by show(if(1:Int) -1=0 then u.us.set f false else u.us).length=64;rw[if_pos (by decide),List.length_set];exact L.ul,A1.congr (λ_ _=>rfl) (λt ht=> ?_) (λg hg=>rfl) (λ_ _=>rfl) (λ_ _=>rfl)⟩;try simp only
    by_cases c:t=9*k+1+n
    ·rw[if_pos c,if_pos (by omega)]
    ·rw[if_neg c]
     by_cases d:9*k+1<=t/\t<9*k+1+n
     ·rw[if_pos d,if_pos (by omega)]
     ·rw[if_neg d,if_neg (by omega)]
   ·by_cases c:m=n
    ·subst c;rw[<-hu];exact .inr ⟨h0,f,hf,h64,aIY,by omega⟩
    ·exact hO m (by omega)
  ·rw[if_neg (by omega)] at htab
   have e:Dp (E.ps k).root u n=u:=by unfold Dp;rw[L.zs,if_neg (by omega)]
   refine⟨?_,λm hm=> ?_⟩
   ·rw[hst,e]
    refine⟨L.zs,L.ps,L.ts,L.dv,L.tl,L.hd,L.ul,L.A.congr (λ_ _=>rfl) (λt ht=> ?_) (λ_ _=>rfl) (λ_ _=>rfl) (λ_ _=>rfl)⟩;by_cases d:9*k+1<=t/\t<9*k+1+n
    ·rw[if_pos d,if_pos (by omega)]
    ·rw[if_neg d]
     by_cases c:t=9*k+1+n
     ·rw[if_pos (by omega),c,htab]
     ·rw[if_neg (by omega)]
   ·by_cases c:m=n
    ·subst c;exact .inl h3
    ·exact hO m (by omega)
structure Exi (v u:Vm) (k:Nat):Prop where
 ok:aF7 v k
 c:dX u ze ze []
 l8:u.tl.length<=8
 ps:u.ps=fJ v.ps k vX
 eo:∀j,j<256->j/64≠k->aA u j=aA v j
 bs:∀j,j<256->j/64≠k->∀n,n<64->cb u j n=cb v j n
 gs:∀j,j<256->j/64≠k->∀g,g<4->ct u j g=ct v j g
theorem aLV {v:Vm} {j:Nat} (h:(v.ps (j/64)).live=false):aA v j=(0,0)/\(∀n,cb v j n=0)/\∀g,ct v j g=0:=by
 have e:aA v j=(0,0):=by unfold aA;rw[h];rfl
 refine⟨e,λn=> ?_,λg=> ?_⟩
 ·unfold cb;rw[e,if_neg (by decide),if_neg (by decide)]
 ·unfold ct;rw[e,if_neg (by decide),if_neg (by decide)]
theorem aLP {v:Vm} (h:dX v ze ze []) (hl:v.tl.length<=8) {k:Nat} (hk:k<4) (hv:(v.ps k).live=true):Exi v (jM v k) k:=by
 obtain⟨M,hM⟩:=U8 h hl hk hv [] 64 (nR _);obtain⟨E,hE⟩:∃E,E=kL v k []:=⟨_,rfl⟩;have hE':iA v k [] 64=E:=hE.symm;rw[hE'] at M;have hvE:(E.ps k).live=true:=by rw[M.ps];exact hv
 have hnone:∀p,p<64->aA E (64*k+p)=(0,0):=λp hp=>M.en p hp hp rfl;obtain⟨L,hL⟩:=aAv M.c hk hvE hnone 8 (nR _);have hroot:(E.ps k).root=(v.ps k).root:=by rw[M.ps]
 rw[hroot] at L hL;obtain⟨u,hu⟩:∃u,u=bT E (v.ps k).root 8:=⟨_,rfl⟩;rw[<-hu] at L;obtain⟨f,hf⟩:∃f:Nat,(v.ps k).root=f:=⟨(v.ps k).root.toNat,by have:=h.T.root k hk hv;omega⟩;have h64:f<64:=by have:=h.T.root k hk hv;omega
 have htr:aI E (9*k)=f:=by rw[pV hvE,hroot,hf]
 obtain⟨r1,f1,A1⟩:=L.A.aKd (q:=9*k) (f:=f) (by omega) (by rw[if_neg (by omega)];exact htr) h64 rfl (λi hi hq=>by omega);have aIY:kR u.rf:=λg hg=>by
  by_cases ht:∃t,t<36/\(if 9*k+1<=t/\t<9*k+1+8 then(-1:Int) else aI E t)=g
  ·obtain⟨t,t1,t2⟩:=ht
   have:=(L.A.tf t t1 (by omega)).2;try simp only at this
   rw[t2,Int.toNat_natCast] at this;omega
  ·have a1:=L.A.fr g hg (λt t1 t2=>ht ⟨t,t1,t2⟩)
   have a2:=oJ (aA E) (1,(g:Int));have a3:=L.A.four (z:=(1,(g:Int))) (by simp);unfold ze at a1;omega
 have hW:G7 v k=lC u f:=by unfold G7;rw[<-hE,<-hu,hf]
 have hX:jM v k= { lC u f with tl:=Fa k (lC u f).tl,ps:=fJ (lC u f).ps k vX } :=by unfold jM;rw[hW]
 obtain⟨w,hw⟩:∃w,w=lC u (f:Int):=⟨_,rfl⟩;have ew:=hw;rw[aCO,r1] at ew;rw[<-hw] at hX;have w1:w.zs=E.zs:=by rw[ew];exact L.zs
 have w2:w.ps=v.ps:=by rw[ew];show u.ps=_;rw[L.ps,M.ps]
 have w3:w.ts=E.ts:=by rw[ew];exact L.ts
 have w4:w.dv=E.dv:=by rw[ew];exact L.dv
 have w5:w.tl=E.tl:=by rw[ew];exact L.tl
 have w6:w.hd=E.hd:=by rw[ew];exact L.hd
 have w7:w.us.length=64:=by rw[ew];show(if(1:Int) -1=0 then u.us.set f false else u.us).length=64;rw[if_pos (by decide),List.length_set];exact L.ul
 have hps:(jM v k).ps=fJ v.ps k vX:=by rw[hX];show fJ w.ps k vX=_;rw[w2]
 have hzs:(jM v k).zs=E.zs:=by rw[hX];exact w1
 have hpk:∀j,j≠k->(jM v k).ps j=E.ps j:=λj hj=>by rw[hps,M.ps];unfold fJ;rw[if_neg hj]
 have hpd:((jM v k).ps k).live=false:=by rw[hps];unfold fJ;rw[if_pos rfl];rfl
 have hlv:∀j,((jM v k).ps j).live=true->j≠k:=λj hj hh=>by rw[hh,hpd] at hj;cases hj
 have hent:∀i,i<256->aA (jM v k) i=aA E i:=λi hi=>by
  obtain⟨k',p',a1,a2,rfl⟩:=Br hi;by_cases c:k'=k
  ·subst c;rw[xQ hpd a2,hnone p' a2]
  ·unfold aA gF
   rw[show(64*k'+p')/64=k' by omega,hpk k' c,hzs]
 have htab:∀t,t<36->aI (jM v k) t=if t=9*k then -1 else if 9*k+1<=t/\t<9*k+1+8 then -1 else aI E t:=λt ht=>by
  by_cases c:t/9=k
  ·rw[xI (by rw[c];exact hpd)]
   by_cases d:t=9*k
   ·rw[if_pos d]
   ·rw[if_neg d,if_pos (by omega)]
  ·rw[if_neg (by omega),if_neg (by omega)]
   unfold aI;rw[hpk _ c,hzs]
 have T:=M.c.T;have g2:∀j,((jM v k).ps j).live=true->(jM v k).ps j=E.ps j:=λj hj=>hpk j (hlv j hj);refine⟨⟨λn hn=>hM n hn,by rw[<-hE];exact M.c.T.zb,λn hn=>by rw[<-hE];exact hL n hn,⟨f,hf,h64,by rw[<-hE,<-hu];exact aIY,by rw[<-hE,<-hu];omega⟩,by rw[hW,<-hw,w5];have:=M.l8;omega⟩,⟨⟨?_,?_,?_,?_,?_,?_,?_,?_⟩,?_,?_,?_⟩,?_,hps,λj hj hne=> ?_,λj hj hne n hn=> ?_,λj hj hne g hg=> ?_⟩
 ·rw[hzs];exact T.zl
 ·rw[hzs];exact T.zb
 ·intro j hj hv';have e1:=g2 j hv';rw[e1] at hv'⊢;exact T.root j hj hv'
 ·intro j hj hv';have e1:=g2 j hv';rw[e1] at hv'⊢;rw[hzs];exact T.leaf j hj hv'
 ·intro j hj hv';have e1:=g2 j hv';rw[e1] at hv'⊢;rw[hzs];exact T.get j hj hv'
 ·intro j hj hv' l hl' hv2;have e1:=g2 j hv';have e2:=g2 l hv2;rw[e1] at hv'⊢;rw[e2] at hv2⊢;exact T.rr j hj hv' l hl' hv2
 ·intro j hj hv' l hl' hv2;have e1:=g2 j hv';have e2:=g2 l hv2;rw[e1] at hv'⊢;rw[e2] at hv2⊢;rw[hzs];exact T.rl j hj hv' l hl' hv2
 ·intro j hj hv' l hl' hv2;have e1:=g2 j hv';have e2:=g2 l hv2;rw[e1] at hv'⊢;rw[e2] at hv2⊢;rw[hzs];exact T.ll j hj hv' l hl' hv2
 ·rw[hX]
  exact⟨by show w.ts.length=128;rw[w3];exact M.c.F.tl,by show Bytes w.ts;rw[w3];exact M.c.F.tb,by show w.dv.length=64;rw[w4];exact M.c.F.dl,λs hs h1=>by
   have h2:=M.c.F.ds s hs (by unfold eB sl at h1⊢;rw[<-w4];exact h1)
   unfold sl at h2⊢;show(w.dv.getD s default).b.length=64/\_;rw[w4];exact h2,w7,by show 0<=w.hd;rw[w6];exact M.c.F.h0,by show w.hd<64;rw[w6];exact M.c.F.h1⟩
 ·refine A1.congr hent (λt ht=>by rw[htab t ht]) (λg hg=> ?_) (λg hg=> ?_) (λs hs=> ?_)
  ·rw[hX,ew];rfl
  ·rw[hX,ew]
  ·rw[hX];unfold eB sl;show(w.dv.getD s default).r=_;rw[w4]
 ·intro c hc
  rw[hX] at hc;have hc':c∈w.tl/\(!aA7 (k:Int) c)=true:=List.mem_filter.1 hc;rw[w5] at hc';obtain⟨i,hi,d1,d2,d3,d4⟩:=M.c.L c hc'.1;exact⟨i,hi,d1,d2,d3,by rw[hent i hi];exact d4⟩
 ·rw[hX]
  have:(Fa (k:Int) w.tl).length<=w.tl.length:=List.length_filter_le _ _;show(Fa (k:Int) w.tl).length<=8;rw[w5] at this⊢;have:=M.l8;omega
 ·rw[hent j hj];exact M.eo j hj λp hp jZ _ hh=>hne (by omega)
 ·rw[<-M.bs j hj (λp hp jZ _ hh=>hne (by omega)) n hn]
  unfold cb;rw[hent j hj,hzs];have:∀s,sl (jM v k) s=sl E s:=λs=>by rw[hX];unfold sl;show w.dv.getD s default=_;rw[w4]
  rw[this]
 ·rw[<-M.gs j hj (λp hp jZ _ hh=>hne (by omega)) g hg]
  unfold ct;have hts:(jM v k).ts=E.ts:=by rw[hX];exact w3
  rw[hent j hj,hts];have:∀s,sl (jM v k) s=sl E s:=λs=>by rw[hX];unfold sl;show w.dv.getD s default=_;rw[w4]
  rw[this]
end
section
section
variable {e:Nat->iD} {tb:Nat->Int} {rf:Nat->Int} {fx:Nat->Bool} {sr:Nat->Int} {x y:Nat->Int} {W:List Nat}
theorem iH.aN4 (h:iH e tb rf fx sr x y W) {f:Nat} (hn:∀t,t<36->tb t≠f):iH e tb (aO rf f (rf f+1)) fx sr (aO x f (x f+1)) y W:=
 ⟨h.er,λg=>by
   have:=h.x0 g;have h2:=h.x0 f;unfold aO;split<;>omega,h.y0,h.tr,h.td,λt ht a=>by
   obtain⟨b1,b2⟩:=h.tf t ht a;have b3:=h.tr t ht;have b4:=hn t ht;exact⟨b1,by unfold aO;rw[if_neg (by omega)];exact b2⟩,h.et,λg hg a=>by
   have:=h.fr g hg a;unfold aO;by_cases c:g=f
   ·subst c;rw[if_pos rfl,if_pos rfl];omega
   ·rw[if_neg c,if_neg c];exact this,h.sy,h.y1,h.pg,h.all,h.fw,h.lf⟩
theorem iH.aN3 (h:iH e tb rf fx sr x y W) {s:Nat} {Ob:Nat->Int} (hc:0<dE e (2,(s:Int))) (hs:∀q,q<64->Ob q=if q=s then sr q+1 else sr q):iH e tb rf fx Ob x (aO y s (y s+1)) W:=
 ⟨h.er,h.x0,λg=>by
   have:=h.y0 g;have h2:=h.y0 s;unfold aO;split<;>omega,h.tr,h.td,h.tf,h.et,h.fr,λq hq=>by
   have:=h.sy q hq;rw[hs q hq];unfold aO;by_cases c:q=s
   ·subst c;rw[if_pos rfl,if_pos rfl];omega
   ·rw[if_neg c,if_neg c];exact this,λq hq a=>by
   unfold aO at a;by_cases c:q=s
   ·subst c;exact hc
   ·rw[if_neg c] at a;exact h.y1 q hq a,h.pg,h.all,h.fw,h.lf⟩
end
structure Ber (v u:Vm) (k c:Nat):Prop where
 tk:∃f,vE v f
 co:dX u ze ze []
 l8:u.tl.length<=8
 ps:∃f:Int,u.ps=fJ v.ps c ⟨true,f,(v.ps k).rg,(v.ps k).ks⟩
 no:∀j,j<256->((aA u j).1=0↔(aA v j).1=0)
 bs:∀j,j<256->∀n,n<64->cb u j n=cb v j n
 gs:∀j,j<256->∀g,g<4->ct u j g=ct v j g
 us:dL u=dL v+1
 nu:j4 u=j4 v+1
 tab:∀t,t<36->t/9≠c->aI u t=aI v t
theorem Zo {v:Vm} (h:dX v ze ze []) (hl:v.tl.length<=8) {k c:Nat} (hc:c<4) (hd:(v.ps c).live=false):Ber v (iN v k c) k c:=by
 obtain⟨f,t⟩:=Z0 h (aCt v) Ik hl (by simp);have hf:=t.ok.l;obtain⟨b,hb⟩:∃b,b=aQ v:=⟨_,rfl⟩;have he:iN v k c= { aQ v with ps:=fJ (aQ v).ps c ⟨true,(f:Int),(v.ps k).rg,(v.ps k).ks⟩ } :=by unfold iN;rw[t.ok.n]
 rw[<-hb] at t he;obtain⟨u,hu⟩:∃u,u=iN v k c:=⟨_,rfl⟩;rw[<-hu] at he⊢;have hps:u.ps=fJ v.ps c ⟨true,(f:Int),(v.ps k).rg,(v.ps k).ks⟩:=by rw[he];show fJ b.ps c _=_;rw[t.ke.ps]
 have hzs:u.zs=b.zs:=by rw[he]
 have hpc:u.ps c=⟨true,(f:Int),(v.ps k).rg,(v.ps k).ks⟩:=by rw[hps];unfold fJ;rw[if_pos rfl]
 have hpo:∀j,j≠c->u.ps j=b.ps j:=λj hj=>by rw[hps,t.ke.ps];unfold fJ;rw[if_neg hj]
 have hdb:(b.ps c).live=false:=by rw[t.ke.ps];exact hd
 have T:=t.c.T;have lf3:∀p:Nat,p<64->aG b.zs (f:Int) p=3:=λp hp=>by
  obtain⟨z1,z2,z3⟩:=t.zr ((p:Int)/8) (by omega) (by omega);unfold aG;rw[z1,z2,if_neg (by omega),if_neg (by decide),if_pos rfl]
 have hnt:=Ur t.nt;have hent:∀j,j<256->aA u j=aA b j:=λj hj=>by
  obtain⟨k',p',a1,a2,rfl⟩:=Br hj;by_cases d:k'=c
  ·subst d
   rw[xQ hdb a2,Jh (by rw[hpc]) a2,hzs,hpc];obtain⟨g1,g2,g3⟩:=get_none (lf3 p' a2);show(j6 b.zs (f:Int) p',j5 b.zs (f:Int) p')=_;rw[g2,g3]
  ·unfold aA gF
   rw[show(64*k'+p')/64=k' by omega,hpo k' d,hzs]
 have htab:∀q,q<36->aI u q=if q=9*c then(f:Int) else aI b q:=λq hq=>by
  by_cases d:q/9=c
  ·have hlu:(u.ps c).live=true:=by rw[hpc]
   by_cases d2:q=9*c
   ·rw[if_pos d2,d2,pV hlu,hpc]
   ·rw[if_neg d2,xI (v:=b) (by rw[d];exact hdb)]
    obtain⟨k',hk',hs⟩:=aAb hq;rcases hs with rfl|⟨p',hp',rfl⟩
    ·exfalso;omega
    ·obtain rfl:k'=c:=by omega
     rw[pW hlu hp',hzs,hpc];show(if aG b.zs (f:Int) p'=0 then aK b.zs (f:Int) p' else -1)= -1;rw[lf3 p' hp',if_neg (by decide)]
  ·rw[if_neg (by omega)]
   unfold aI;rw[hpo _ d,hzs]
 have hq0:aI b (9*c)= -1:=xI (by rw[show 9*c/9=c by omega];exact hdb);have hA:=t.c.A.table hf (q:=9*c) (by omega) hq0 t.nt t.fx (vH _ _ _) t.ce t.r1 htab;rw[T9,Nt t.x0] at hA;have hA2:=hA.weak (W':=[]) λg hg=>by
  obtain⟨g1,g2⟩:=List.mem_filter.1 hg;rcases List.mem_cons.1 g1 with rfl|g1
  ·simp at g2
  ·cases g1
 have tH:∀j,j≠c->(u.ps j).live=true->(b.ps j).live=true:=λj hj hh=>by rw[<-hpo j hj];exact hh
 have uP:∀j,j≠c->(u.ps j).root=(b.ps j).root:=λj hj=>by rw[hpo j hj]
 have rc:(u.ps c).root=f:=by rw[hpc]
 have c3:=t.c;refine⟨⟨f,t.ok⟩,⟨⟨?_,?_,λj hj hv=> ?_,λj hj hv p hp=> ?_,λj hj hv p hp=> ?_,λj hj hv l hl hv2 a=> ?_,λj hj hv l hl hv2 p hp a=> ?_,λj hj hv l hl hv2 p hp p2 hp2 a a2 a3=> ?_⟩,?_,?_,λcc hcc=> ?_⟩,?_,⟨f,hps⟩,λj hj=>by rw[hent j hj];exact t.ke.no j hj,λj hj n hn=> ?_,λj hj g hg=> ?_,?_,?_,λq hq hne=>by rw[htab q hq,if_neg (by omega),t.tab q hq]⟩
 ·rw[hzs];exact T.zl
 ·rw[hzs];exact T.zb
 ·by_cases d:j=c
  ·subst d;rw[rc];omega
  ·rw[uP j d];exact T.root j hj (tH j d hv)
 ·rw[hzs]
  by_cases d:j=c
  ·subst d;rw[rc];exact .inr (lf3 p hp)
  ·rw[uP j d];exact T.leaf j hj (tH j d hv) p hp
 ·rw[hzs]
  by_cases d:j=c
  ·subst d;rw[rc];exact(get_none (lf3 p hp)).1
  ·rw[uP j d];exact T.get j hj (tH j d hv) p hp
 ·by_cases d:j=c<;>by_cases d2:l=c
  ·rw[d,d2]
  ·subst d;rw[rc,uP l d2] at a;exact absurd a.symm (hnt.root l hl (tH l d2 hv2))
  ·subst d2;rw[rc,uP j d] at a;exact absurd a (hnt.root j hj (tH j d hv))
  ·rw[uP j d,uP l d2] at a;exact T.rr j hj (tH j d hv) l hl (tH l d2 hv2) a
 ·rw[hzs] at a⊢
  by_cases d2:l=c
  ·subst d2;rw[rc,lf3 p hp] at a;cases a
  ·rw[uP l d2] at a⊢
   by_cases d:j=c
   ·subst d;rw[rc];exact λe=>hnt.leaf l hl (tH l d2 hv2) p hp a e.symm
   ·rw[uP j d];exact T.rl j hj (tH j d hv) l hl (tH l d2 hv2) p hp a
 ·rw[hzs] at a a2 a3
  by_cases d:j=c
  ·subst d;rw[rc,lf3 p hp] at a;cases a
  ·by_cases d2:l=c
   ·subst d2;rw[rc,lf3 p2 hp2] at a2;cases a2
   ·rw[uP j d] at a a3;rw[uP l d2] at a2 a3
    exact T.ll j hj (tH j d hv) l hl (tH l d2 hv2) p hp p2 hp2 a a2 a3
 ·rw[he];exact⟨c3.F.tl,c3.F.tb,c3.F.dl,c3.F.ds,c3.F.ul,c3.F.h0,c3.F.h1⟩
 ·exact hA2.congr hent (λ_ _=>rfl) (λ_ _=>by rw[he]) (λ_ _=>by rw[he]) (λ_ _=>by rw[he];rfl)
 ·rw[he] at hcc
  obtain⟨i,hi,d1,d2,d3,d4⟩:=c3.L cc hcc;exact⟨i,hi,d1,d2,d3,by rw[hent i hi];exact d4⟩
 ·rw[he];exact t.l8
 ·rw[<-t.ke.cb j hj n hn]
  unfold cb;rw[hent j hj,he];rfl
 ·rw[<-t.ke.ct j hj g hg]
  unfold ct;rw[hent j hj,he];rfl
 ·rw[<-t.us];exact xH (by rw[he]) (by rw[he])
 ·unfold j4
  have h5:=lW (f:=λq=>ind (aI u q≠ -1)) (g:=λq=>ind (aI v q≠ -1)) (j:=9*c) (n:=36) (by omega) (λq hq hne=>by rw[htab q hq,if_neg hne,t.tab q hq]);rw[htab _ (by omega),if_pos rfl,<-t.tab _ (by omega),hq0,bP (by omega),aY (by omega)] at h5;omega
end
section
structure Shr (v u:Vm) (k c i:Nat):Prop where
 sh:aFX v (aA v (64*k+i))
 st:xD (kE v (aA v (64*k+i)).1 (aA v (64*k+i)).2) c i (aA v (64*k+i)).1 (aA v (64*k+i)).2
 co:dX u ze ze []
 l8:u.tl.length<=8
 ps:u.ps=v.ps
 en:(aA u (64*c+i)).1≠0
 no:∀j,j<256->j≠64*c+i->((aA u j).1=0↔(aA v j).1=0)
 bs:∀j,j<256->j≠64*c+i->∀n,n<64->cb u j n=cb v j n
 gs:∀j,j<256->j≠64*c+i->∀g,g<4->ct u j g=ct v j g
 own:∀n,n<64->cb u (64*c+i) n=cb v (64*k+i) n
 Ck:∀g,g<4->ct u (64*c+i) g=ct v (64*k+i) g
 us:dL v<=dL u/\dL u -dL v=j4 u -j4 v
 tab:∀t,t<36->t≠9*c+1+i/8->aI u t=aI v t
section
variable {v:Vm}
theorem aIo (h:dX v ze ze []) (hl:v.tl.length<=8) {k c i:Nat} (hk:k<4) (hc:c<4) (hv:(v.ps c).live=true) (hi:i<64) (hz:(aA v (64*k+i)).1≠0) (h0:(aA v (64*c+i)).1=0) (hroom:full (aA v)<64):
 Shr v (gI (kE v (aA v (64*k+i)).1 (aA v (64*k+i)).2) c i (aA v (64*k+i)).1 (aA v (64*k+i)).2) k c i:=by
 have ik:64*k+i<256:=by omega
 have ic:64*c+i<256:=by omega
 have hc0:aA v (64*c+i)=(0,0):=Prod.ext h0 ((nH (h.A.er _ ic)).2.2.2.2 h0)
 have h3:dE (aA v) (aA v (64*k+i))<=3:=h.A.three hz hc (λp hp hh=>by
  have:=h.A.pg (64*c+p) (by omega) (64*k+i) ik hh (by rw[hh];exact hz);have:p=i:=by omega
  subst this
  rw[hc0] at hh;rw[<-hh] at hz;exact hz rfl)
 obtain⟨N,hN,Bw,hkk⟩:=aED (h.A.er _ ik);obtain⟨z,hzz⟩:∃z,z=aA v (64*k+i):=⟨_,rfl⟩;rw[<-hzz] at hz h3 Bw hkk;have aKn:∀(e:Nat->iD) (w:iD),(∀j,j<256->((e j).1=0↔(aA v j).1=0))->full (qV e (64*c+i) w)<=64:=λe w he=>by
  rw[Le ic,vL (e':=aA v) he];have a1:=(dS ((e (64*c+i)).1≠0)).1;have a2:=(dS (w.1≠0)).2;omega
 rcases hkk with⟨hh,_⟩|h1|h2
 ·exact absurd hh hz
 ·have ez:z=(1,(N:Int)):=Prod.ext h1 Bw
  have nt:∀t,t<36->aI v t≠N:=λt ht=>by have:=h.A.et _ ik (by rw[<-hzz];exact h1) t ht;rw[<-hzz,Bw] at this;exact this
  have hfr:=h.A.fr N hN nt;rw[ez] at h3;have hpos:=iW ik (show aA v (64*k+i)=(1,(N:Int)) from by rw[<-hzz];exact ez);unfold ze at hfr;have e0:kE v 1 (N:Int)= { v with rf:=aO v.rf N (v.rf N+1) } :=by unfold kE;rw[if_pos rfl,Int.toNat_natCast]
  obtain⟨w,hw⟩:∃w,w=kE v 1 (N:Int):=⟨_,rfl⟩;rw[<-hw] at e0;have cw:dX w (aO ze N 1) (λ_=>0) []:=by
   have:=h.A.aN4 nt;rw[e0];exact⟨h.T,⟨h.F.tl,h.F.tb,h.F.dl,h.F.ds,h.F.ul,h.F.h0,h.F.h1⟩,this,h.L⟩
  have Ew:∀j,aA w j=aA v j:=λj=>by rw[e0];rfl
  have Tw:∀t,aI w t=aI v t:=λt=>by rw[e0];rfl
  have Zw:w.zs=v.zs:=by rw[e0]
  have hpw:w.ps=v.ps:=by rw[e0]
  have hdw:bO w (aA w (64*c+i)).1 (aA w (64*c+i)).2=w:=by rw[Ew,hc0];rfl
  have S:=Yw (v:=w) (f:=N) (W:=[]) cw hN aIa (λt ht=>by rw[Tw];exact nt t ht) (by rw[e0];exact hl) (by simp) hc (by rw[hpw];exact hv) hi (λj hj _ he=>by
   rw[Ew] at he;have:=h.A.pg j hj (64*k+i) ik (by rw[he,<-hzz,ez]) (by rw[he];exact Int.one_ne_zero)
   omega) (aKn _ _ λj _=>by rw[Ew])
  have hst:=S.st;rw[hdw] at S hst;have hu:dL w=dL v:=by
   unfold dL;have e2:aM (λs=>min (eB w s) 1) 64=aM (λs=>min (eB v s) 1) 64:=by rw[e0];rfl
   have e3:aM (λg=>min (w.rf g) 1) 64=aM (λg=>min (v.rf g) 1) 64:=dM λg hg=>by
    rw[e0];show min (aO v.rf N (v.rf N+1) g) 1=_;unfold aO;split
    ·next c=>subst c;omega
    ·rfl
   rw[e2,e3]
  have hn:j4 w=j4 v:=xK λt _=>Tw t;rw[<-hzz,ez];simp only;rw[<-hw];have hus:=S.us (by rw[Ew];exact h0);refine⟨by rw[<-hzz,ez];exact .inl ⟨rfl,N,rfl,hN,h.V9 Ik,by omega,by omega⟩,by rw[<-hzz,ez];simp only;rw[<-hw];exact hst,S.c,S.l8,by rw[S.ps,hpw],by rw[S.en];exact Int.one_ne_zero,λj hj hne=>by rw[S.no j hj hne,Ew],λj hj hne n hn=>by rw[S.bs j hj hne n hn,e0];rfl,λj hj hne g hg=>by rw[S.gs j hj hne g hg,e0];rfl,λn hn=> ?_,λg hg=> ?_,by omega,λt ht hne=>by rw[S.tab t ht hne,Tw]⟩
  ·rw[S.own n hn,Zw];unfold cb;rw[<-hzz,ez,if_pos rfl]
  ·rw[S.Ck g hg,e0];unfold ct;rw[<-hzz,ez,if_pos rfl]
 ·have ez:z=(2,(N:Int)):=Prod.ext h2 Bw
  have hsy:=h.A.sy N hN;rw[ez] at h3;have hpos:=iW ik (show aA v (64*k+i)=(2,(N:Int)) from by rw[<-hzz];exact ez);unfold ze at hsy;have e0:kE v 2 (N:Int)= { v with dv:=v.dv.set N (bump (sl v N) 1) } :=by unfold kE;rw[if_neg (by decide),if_pos rfl,Int.toNat_natCast];rfl
  obtain⟨w,hw⟩:∃w,w=kE v 2 (N:Int):=⟨_,rfl⟩;rw[<-hw] at e0;have hsl:=aBH (v:=v) (v':=w) h.F.dl hN (by rw[e0]);have hbk:∀q:Nat,q<64->(sl w q).b=(sl v q).b/\(sl w q).t=(sl v q).t/\eB w q=if q=N then eB v q+1 else eB v q:=λq hq=>by
   unfold eB;rw[hsl q];by_cases d:q=N
   ·subst d
    rw[if_pos rfl,if_pos rfl];obtain⟨b1,b2⟩:=aAX (s:=sl v q) (b:=1) (by rw[Rx];unfold eB at hsy;omega);exact⟨b1,b2,Rx _ _⟩
   ·rw[if_neg d,if_neg d];exact⟨rfl,rfl,rfl⟩
  have Ew:∀j,aA w j=aA v j:=λj=>by rw[e0];rfl
  have Tw:∀t,aI w t=aI v t:=λt=>by rw[e0];rfl
  have Zw:w.zs=v.zs:=by rw[e0]
  have hpw:w.ps=v.ps:=by rw[e0]
  have aFC:∀j,j<256->(∀n,cb w j n=cb v j n)/\∀g,ct w j g=ct v j g:=λj hj=>by
   have hr:=h.jP hj;have hb:=hbk (aA v j).2.toNat (by omega);refine⟨λn=> ?_,λg=> ?_⟩
   ·unfold cb;rw[Ew,Zw,hb.1]
   ·have ts:w.ts=v.ts:=by rw[e0]
    unfold ct;rw[Ew,ts,hb.2.1]
  have cw:dX w ze (aO ze N 1) []:=by
   have:=h.A.aN3 (s:=N) (Ob:=eB w) hpos (λq hq=>(hbk q hq).2.2);refine⟨by rw[Zw,hpw];exact h.T,⟨by rw[e0];exact h.F.tl,by rw[e0];exact h.F.tb,by rw[e0];simp[h.F.dl],λs hs h1=> ?_,by rw[e0];exact h.F.ul,by rw[e0];exact h.F.h0,by rw[e0];exact h.F.h1⟩,?_,?_⟩
   ·obtain⟨b1,b2,b3⟩:=hbk s hs
    rw[b1,b2];refine h.F.ds s hs ?_;rw[b3] at h1;split at h1
    ·next d=>subst d;omega
    ·exact h1
   ·exact this.congr (λj _=>Ew j) (λt _=>Tw t) (λ_ _=>by rw[e0]) (λ_ _=>by rw[e0]) (λ_ _=>rfl)
   ·intro cc hcc
    rw[e0] at hcc;obtain⟨j,hj,d1,d2,d3,d4⟩:=h.L cc hcc;exact⟨j,hj,d1,d2,d3,by rw[Ew];exact d4⟩
  have hvw:(w.ps c).live=true:=by rw[hpw];exact hv
  have L:=aCh cw (aCt w) Ik (by rw[e0];exact hl) (by simp) hc hvw hi;obtain⟨q,hq⟩:∃q,q=bG w c i:=⟨_,rfl⟩;rw[<-hq] at L;have hpq:q.ps=v.ps:=by rw[L.ke.ps,hpw]
  have hq0:aA q (64*c+i)=(0,0):=by
   have a:=(L.ke.no _ ic).2 (by rw[Ew];exact h0);exact Prod.ext a ((nH (L.c.A.er _ ic)).2.2.2.2 a)
  have hqk:aA q (64*k+i)=(2,(N:Int)):=by
   rw[L.ke.out _ ik (by rw[Ew,<-hzz];exact h2),Ew,<-hzz,ez]
  have hlq:aG q.zs (q.ps c).root i=0:=by have:=L.h0;rw[hpw] at this;rw[hpq];exact this
  have hvq:(q.ps c).live=true:=by rw[hpq];exact hv
  have hP:cB 2 (N:Int)=0:=Bp (by omega) (by omega) (by omega) (by omega) (by omega);have D:=Lj L.c (z:=aA q (64*c+i)) ⟨_,ic,rfl⟩;have hd3:bO q (aA q (64*c+i)).1 (aA q (64*c+i)).2=q:=by rw[hq0];rfl
  rw[hd3] at D;obtain⟨u,hu⟩:∃u,u=gI w c i 2 N:=⟨_,rfl⟩;have Zg:∀(X:Vm) (b:Bool),gN X 2 (N:Int) b=X:=λX b=>by unfold gN;rw[if_neg (by decide)]
  have eu:u= { q with zs:=jU q.zs (q.ps c).root i 2 N,tl:=fF c i q.tl } :=by
   rw[hu];unfold gI;rw[Zg,Zg,<-hq];rfl
  obtain⟨c1,e1,t1,l1⟩:=L.c.swap (u:=u) (x':=ze) hc hvq hi hlq hP (λh=>absurd h (by decide)) (λg hg=>by rw[aY (λh=>by cases congrArg Prod.fst h)];rfl) (λ_=>Int.le_refl _) (λs hs=>by
   rw[Lb];unfold aO ze;by_cases d:s=N
   ·rw[if_pos d,if_pos ⟨rfl,d.symm⟩]
   ·rw[if_neg d,if_neg (λhh=>d hh.2.symm)])
   (λ_ j hj _ he=>by
     have:=L.c.A.pg j hj (64*k+i) ik (by rw[he,hqk]) (by rw[he];show(2:Int)≠0;decide)
     omega) (aKn _ _ λj hj=>by rw[L.ke.no j hj,Ew]) (by rw[eu];rfl) (by rw[eu];rfl) (by rw[eu]) (λ_ _=>by rw[eu]) (by rw[eu];exact⟨L.c.F.tl,L.c.F.tb,L.c.F.dl,L.c.F.ds,L.c.F.ul,L.c.F.h0,L.c.F.h1⟩)
   (λg hg=>by rw[hq0,aY (λh=>by cases congrArg Prod.fst h),eu];show q.rf g=_;omega) (λs hs=>by rw[hq0,aY (λh=>by cases congrArg Prod.fst h),eu];show eB q s=_;omega)
  have Mj:∀j,j<256->j≠64*c+i->aA u j=aA q j:=λj hj hne=>by rw[e1 j hj,jB _ _ hne]
  obtain⟨b1,b2⟩:=aEr L.c D Mj (λg hg n hn=>by rw[eu];exact Gn L.c.T L.c.L hc hvq hi hlq hP hg hn) (by rw[eu]) (by rw[eu]) (λj hj hne s hs=>by
   have a1:=L.c.A.sy s (by have:=L.c.jP hj;rw[hs] at this;omega);have a2:=L.c.A.y0 s;have a3:=iW hj hs
   omega)
  have hen:aA u (64*c+i)=(2,(N:Int)):=by rw[e1 _ ic,pM]
  have aM3:sl u N=sl q N:=by rw[eu];rfl
  have huw:dL w=dL v:=by
   unfold dL;have e2:aM (λs=>min (w.rf s) 1) 64=aM (λs=>min (v.rf s) 1) 64:=by rw[e0]
   have e3:aM (λg=>min (eB w g) 1) 64=aM (λg=>min (eB v g) 1) 64:=dM λg hg=>by
    rw[(hbk g hg).2.2];split
    ·next d=>subst d;omega
    ·rfl
   rw[e2,e3]
  have hnw:j4 w=j4 v:=xK λt _=>Tw t;have huq:dL u=dL q:=xH (by rw[eu]) (by rw[eu]);have hnq:j4 u=j4 q:=xK t1;have hLu:=L.us
  have hlive:uQ v.dv (N:Int) (sl v N):=⟨by omega,by
   have hd:=h.F.dl;rw[Int.toNat_natCast];unfold sl
   simp[List.getD,show N<v.dv.length by omega],by show 0<eB v N;omega⟩
  rw[<-hzz,ez];simp only;rw[<-hw,<-hu]
  refine⟨by rw[<-hzz,ez];exact .inr ⟨rfl,sl v N,hlive,by show eB v N<=3;omega⟩,by
   rw[<-hzz,ez];simp only;rw[<-hw];refine⟨cw.T.zb,?_,by rw[Zg,<-hq];exact L.c.T.zb,by rw[Zg,<-hq];have:=L.l8;omega,by rw[Zg,<-hq,hpw,<-hpq];exact(zT L.c.T L.c.L hc hvq hi hlq hP).1⟩
   rw[Zg];exact L.lf,c1,?_,by rw[eu];exact hpq,by rw[hen];show(2:Int)≠0;decide,λj hj hne=>by rw[Mj j hj hne,L.ke.no j hj,Ew],λj hj hne n hn=> ?_,λj hj hne g hg=> ?_,λn hn=> ?_,λg hg=> ?_,by omega,λt ht hne=>by rw[t1 t ht,L.tab t ht hne,Tw]⟩
  ·rw[eu];have:=xB (c:Int) i q.tl;have:=L.l8;show(fF c i q.tl).length<=8;omega
  ·rw[b1 j hj hne n hn,L.ke.cb j hj n hn];exact(aFC j hj).1 n
  ·rw[b2 j hj hne g hg,L.ke.ct j hj g hg];exact(aFC j hj).2 g
  ·rw[<-(aFC _ ik).1 n,<-L.ke.cb _ ik n hn]
   unfold cb;rw[hen,hqk];simp only[show¬((2:Int)=1) by decide,if_false,if_true,Int.toNat_natCast,aM3]
  ·rw[<-(aFC _ ik).2 g,<-L.ke.ct _ ik g hg]
   unfold ct;rw[hen,hqk];simp only[show¬((2:Int)=1) by decide,if_false,if_true,Int.toNat_natCast,aM3]
end
end
section
theorem aHU {l:List aC} {p:Int} :(dF l p).isSome=true↔∃t,Has l p t:=by
 unfold dF Has;rw[Option.isSome_map,List.find?_isSome];constructor
 ·rintro⟨x,hx,h⟩
  simp only[Bool.and_eq_true,decide_eq_true_eq] at h;exact⟨x.a,x,hx,h.1,h.2,rfl⟩
 ·rintro⟨t,x,hx,h1,h2,_⟩
  exact⟨x,hx,by simp[h1,h2]⟩
theorem Sz (f:Nat->Bool):∀n,(((List.range n).countP f:Nat):Int)=aM (λi=>ind (f i=true)) n
 |0=>rfl
 |n+1=>by
  rw[List.range_succ,List.countP_append,Int.natCast_add,Sz f n];show _=aM (λi=>ind (f i=true)) n+ind (f n=true);by_cases h:f n=true
  ·rw[bP h];simp[h]
  ·rw[aY h];simp[h]
theorem aAo {l:List aC} (h:bF l=true):aM (λp=>ind ((dF l (p:Int)).isSome=true)) 64=tot l:=by
 rw[rM (fE h),Sz];refine dM λp hp=> ?_;by_cases c:Jl l p=true
 ·rw[bP c,bP (aHU.2 (xS.1 c))]
 ·rw[aY c,aY (λhh=>c (xS.2 (aHU.1 hh)))]
theorem Xe (e:Nat->iD):full e=aM (λp=>ind ((e p).1≠0)) 64+aM (λp=>ind ((e (64+p)).1≠0)) 64+aM (λp=>ind ((e (128+p)).1≠0)) 64+aM (λp=>ind ((e (192+p)).1≠0)) 64:=by
 unfold full;rw[show(256:Nat)=192+64 from rfl,sG _ 192 64,show(192:Nat)=128+64 from rfl,sG _ 128 64,show(128:Nat)=64+64 from rfl,sG _ 64 64]
def Zt (v:Vm):Prop:=∀k,k<4->∀p,p<64->(aA v (64*k+p)).1≠0->(dF (v.ps k).rg (p:Int)).isSome=true
theorem xU {v:Vm} (h:Zt v) {k:Nat} (hk:k<4) (hr:bF (v.ps k).rg=true):aM (λp=>ind ((aA v (64*k+p)).1≠0)) 64<=tot (v.ps k).rg:=by
 rw[<-aAo hr];refine fV λp hp=> ?_;by_cases c:(aA v (64*k+p)).1≠0
 ·rw[bP c,bP (h k hk p hp c)];exact Int.le_refl _
 ·rw[aY c];exact(dS _).1
theorem aL1 {v:Vm} (h:Zt v) {k:Nat} (hk:k<4) (hr:bF (v.ps k).rg=true) {p:Nat} (hp:p<64) (h0:(aA v (64*k+p)).1=0) (hp2:(dF (v.ps k).rg (p:Int)).isSome=true):aM (λp=>ind ((aA v (64*k+p)).1≠0)) 64<tot (v.ps k).rg:=by
 rw[<-aAo hr];have h1:=lW (f:=λp=>ind ((aA v (64*k+p)).1≠0)) (g:=λq=>if q=p then 0 else ind ((aA v (64*k+q)).1≠0)) hp (λi _ hi=>by rw[if_neg hi]);have h2:=lW (f:=λq=>ind ((dF (v.ps k).rg (q:Int)).isSome=true)) (g:=λq=>if q=p then 0 else ind ((dF (v.ps k).rg (q:Int)).isSome=true)) hp (λi _ hi=>by rw[if_neg hi])
 have h3:=fV (f:=λq=>if q=p then 0 else ind ((aA v (64*k+q)).1≠0)) (g:=λq=>if q=p then 0 else ind ((dF (v.ps k).rg (q:Int)).isSome=true)) (n:=64) (λq hq=>by
  by_cases d:q=p
  ·rw[if_pos d,if_pos d];exact Int.le_refl _
  ·rw[if_neg d,if_neg d]
   by_cases c:(aA v (64*k+q)).1≠0
   ·rw[bP c,bP (h k hk q hq c)];exact Int.le_refl _
   ·rw[aY c];exact(dS _).1)
 simp only[if_pos] at h1 h2;rw[aY (p:=(aA v (64*k+p)).1≠0) (λhh=>hh h0)] at h1;rw[bP hp2] at h2;omega
theorem aEx {v:Vm} (h:Zt v) (hr:∀k,k<4->bF (v.ps k).rg=true) (hm:cK v<=64) {k p:Nat} (hk:k<4) (hp:p<64) (h0:(aA v (64*k+p)).1=0) (hp2:(dF (v.ps k).rg (p:Int)).isSome=true):full (aA v)<64:=by
 have a0:aM (λp=>ind ((aA v p).1≠0)) 64<=tot (v.ps 0).rg:=by have:=xU h (k:=0) (by omega) (hr 0 (by omega));simpa using this
 have a1:aM (λp=>ind ((aA v (64+p)).1≠0)) 64<=tot (v.ps 1).rg:=xU h (k:=1) (by omega) (hr 1 (by omega));have a2:aM (λp=>ind ((aA v (128+p)).1≠0)) 64<=tot (v.ps 2).rg:=xU h (k:=2) (by omega) (hr 2 (by omega));have a3:aM (λp=>ind ((aA v (192+p)).1≠0)) 64<=tot (v.ps 3).rg:=xU h (k:=3) (by omega) (hr 3 (by omega));have b:=aL1 h hk (hr k hk) hp h0 hp2;rw[Xe];unfold cK at hm;have:k=0\/k=1\/k=2\/k=3:=by omega
 rcases this with rfl|rfl|rfl|rfl
 ·have b':aM (λp=>ind ((aA v p).1≠0)) 64<tot (v.ps 0).rg:=by simpa using b
  omega
 ·have b':aM (λp=>ind ((aA v (64+p)).1≠0)) 64<tot (v.ps 1).rg:=b
  omega
 ·have b':aM (λp=>ind ((aA v (128+p)).1≠0)) 64<tot (v.ps 2).rg:=b
  omega
 ·have b':aM (λp=>ind ((aA v (192+p)).1≠0)) 64<tot (v.ps 3).rg:=b
  omega
theorem aPv {v:Vm} (h:Zt v) (hr:∀k,k<4->bF (v.ps k).rg=true):full (aA v)<=cK v:=by
 have a0:aM (λp=>ind ((aA v p).1≠0)) 64<=tot (v.ps 0).rg:=by have:=xU h (k:=0) (by omega) (hr 0 (by omega));simpa using this
 have a1:aM (λp=>ind ((aA v (64+p)).1≠0)) 64<=tot (v.ps 1).rg:=xU h (k:=1) (by omega) (hr 1 (by omega));have a2:aM (λp=>ind ((aA v (128+p)).1≠0)) 64<=tot (v.ps 2).rg:=xU h (k:=2) (by omega) (hr 2 (by omega));have a3:aM (λp=>ind ((aA v (192+p)).1≠0)) 64<=tot (v.ps 3).rg:=xU h (k:=3) (by omega) (hr 3 (by omega));rw[Xe];unfold cK;omega
structure gK (v:Vm) (W:Fw):Prop where
 co:dX v ze ze []
 l8:v.tl.length<=8
 rg:Zt v
 eq:∀k,k<4->(v.ps k).live=(W k).live/\(v.ps k).rg=(W k).rg/\(v.ps k).ks=(W k).ks
 bt:∀k,k<4->∀p,p<64->∀i,i<64->(W k).bt p i=cb v (64*k+p) i
 tg:∀k,k<4->∀p,p<64->∀i,i<4->(W k).tg p i=ct v (64*k+p) i
def Mt (W:Fw):Prop:=(∀k,k<4->bF (W k).rg=true)/\jO W<=64
theorem OkW.Me {W:Fw} (h:OkW W):Mt W:=⟨λk _=>(h.p k).r,h.sum⟩
section
variable {v:Vm} {W:Fw}
theorem gK.right (h:gK v W) (hok:Mt W):∀k,k<4->bF (v.ps k).rg=true:=λk hk=>by rw[(h.eq k hk).2.1];exact hok.1 k hk
theorem gK.mapped (h:gK v W):cK v=jO W:=by
 unfold cK jO;rw[(h.eq 0 (by omega)).2.1,(h.eq 1 (by omega)).2.1,(h.eq 2 (by omega)).2.1,(h.eq 3 (by omega)).2.1]
theorem gK.room (h:gK v W) (hok:Mt W) {k p:Nat} (hk:k<4) (hp:p<64) (hp2:(dF (v.ps k).rg (p:Int)).isSome=true):(aA v (64*k+p)).1=0->full (aA v)<64:=λh0=>
 aEx h.rg (h.right hok) (by rw[h.mapped];exact hok.2) hk hp h0 hp2
theorem gK.here (h:gK v W) (hok:Mt W) {k p:Nat} (hk:k<4) (hv:(v.ps k).live=true) (hp:p<64) (hp2:(dF (v.ps k).rg (p:Int)).isSome=true) (w:Bool):∃n,Hre v (jW v k p w) k p n w/\gK (jW v k p w) W:=by
 obtain⟨n,H⟩:=aLG h.co h.l8 hk hv hp (h.room hok hk hp hp2) w;refine⟨n,H,H.c,H.l8,λk' hk' p' hp' hz=> ?_,λk' hk'=>by rw[H.ps];exact h.eq k' hk',λk' hk' p' hp' i hi=>by rw[H.bs _ (by omega) i hi];exact h.bt k' hk' p' hp' i hi,λk' hk' p' hp' i hi=>by rw[H.gs _ (by omega) i hi];exact h.tg k' hk' p' hp' i hi⟩;rw[H.ps];by_cases c:64*k'+p'=64*k+p
 ·obtain rfl:k'=k:=by omega
  obtain rfl:p'=p:=by omega
  exact hp2
 ·exact h.rg k' hk' p' hp' (λhh=>hz ((H.no _ (by omega) c).2 hh))
end
end
section
section
variable {v:Vm} {W:Fw}
theorem aOh (k:Int):iU k=4↔k=12:=by unfold iU;split<;>(try split)<;>omega
theorem aHm {p:Fp} {ts:List Int} {n:Int} {t:mP} (h0:0<=t.f) (h1:t.f<t.t) (h2:t.t<=64) (ht:∀g:Nat,g<4->p.tg t.p.toNat g=dZ ts (n*4+(g:Int))):
 ((jS ts n).drop (t.f/16).toNat).take ((t.t -1)/16+1 -t.f/16).toNat=rC p t:=by
 apply List.ext_getElem?;intro i;unfold rC;by_cases hi:i<((t.t -1)/16+1 -t.f/16).toNat
 ·rw[List.getElem?_take_of_lt hi,List.getElem?_drop,List.getElem?_map,List.getElem?_range hi]
  unfold jS;rw[List.getElem?_map,List.getElem?_range (by omega)];simp only[Option.map_some];rw[ht _ (by omega)]
 ·rw[List.getElem?_eq_none (by simp;omega),List.getElem?_eq_none (by simp;omega)]
structure Stop (v:Vm) (W:Fw) (o:aL) (t:mP):Prop where
 ok:aDo v o t
 sim:gK (gH v o t).1 W
 ps:(gH v o t).1.ps=v.ps
 eq:(gH v o t).2=pX (W o.proc.toNat) o t
theorem aKQ (h:gK v W) (hok:Mt W) (o:aL) {k:Nat} (hk:k<4) (hp:o.proc.toNat=k) (hv:(v.ps k).live=true) (t:mP) (t0:0<=t.p) (t1:t.p<64) (t2:0<=t.f) (t3:t.f<t.t) (t4:t.t<=64):Stop v W o t:=by
 obtain⟨e1,e2,e3⟩:=h.eq k hk;obtain⟨p,Wy⟩:∃p:Nat,t.p=p:=⟨t.p.toNat,by omega⟩;have jZ:p<64:=by omega
 have hpn:t.p.toNat=p:=by omega
 by_cases hf:kJ (v.ps k).rg (v.ps k).ks t.p (iU o.kind)≠0
 ·have e:gH v o t=(v,kJ (v.ps k).rg (v.ps k).ks t.p (iU o.kind),t.p*64+t.f):=by unfold gH;rw[hp];exact if_pos hf
  refine⟨λh0=>absurd (by rw[hp] at h0;exact h0) hf,by rw[e];exact h,by rw[e],?_⟩;rw[e];unfold pX;rw[hp,<-e2,<-e3,if_pos hf]
 ·have hf0:kJ (v.ps k).rg (v.ps k).ks t.p (iU o.kind)=0:=by omega
  have hin:(dF (v.ps k).rg (p:Int)).isSome=true:=by
   obtain⟨a,ha,_⟩:=Xj hf0;rw[<-Wy,ha];rfl
  by_cases Pw:o.kind=13
  ·have e:gH v o t=if((dF (v.ps k).rg t.p).getD zA).g=false then(v,4,t.p*64+t.f) else(v,0,0):=by unfold gH;rw[hp];simp only[if_neg hf,if_pos Pw]
   have e':pX (W k) o t=if((dF (v.ps k).rg t.p).getD zA).g=false then(4,t.p*64+t.f) else(0,0):=by unfold pX;rw[<-e2,<-e3,if_neg hf,if_pos Pw]
   refine⟨λ_ h0=>absurd Pw h0,?_,?_,?_⟩
   ·rw[e];split<;>exact h
   ·rw[e];split<;>rfl
   ·rw[e,hp,e'];split<;>rfl
  ·by_cases hg:((dF (v.ps k).rg t.p).getD zA).g=false\/o.kind=12
   ·have e:gH v o t=(v,0,0):=by unfold gH;rw[hp];simp only[if_neg hf,if_neg Pw,if_pos hg]
    have e':pX (W k) o t=(0,0):=by
     unfold pX;rw[<-e2,<-e3,if_neg hf,if_neg Pw,if_neg];unfold oP;rw[if_pos (by rcases hg with hg|hg;exact .inl hg;exact .inr ((aOh _).2 hg))];simp
    refine⟨λ_ _ h12 hgt=> ?_,by rw[e];exact h,by rw[e],by rw[e,hp,e']⟩;rw[hp] at hgt;rcases hg with hg|hg
    ·rw[hg] at hgt;cases hgt
    ·exact absurd hg h12
   ·obtain⟨n,H,S⟩:=h.here hok hk hv jZ hin false
    have hN:yL v k t.p false=n:=by rw[Wy];exact H.hn
    have hgr:D8 v k t=rC (W k) t:=by
     unfold D8;rw[hN];refine aHm t2 t3 t4 λg hg'=> ?_;rw[hpn,S.tg k hk p jZ g hg',Wy];unfold ct;rw[H.en,if_pos rfl]
    have e:gH v o t=if oP ((dF (v.ps k).rg t.p).getD zA).g (iU o.kind) (rC (W k) t) o.tag=0 then(jW v k t.p false,0,0)
     else(jW v k t.p false,oP ((dF (v.ps k).rg t.p).getD zA).g (iU o.kind) (rC (W k) t) o.tag,max (t.p*64+t.f) (t.p*64+(t.f/16+sF ((dF (v.ps k).rg t.p).getD zA).g (iU o.kind) (rC (W k) t) o.tag)*16)):=by
     unfold gH;rw[hp];simp only[if_neg hf,if_neg Pw,if_neg hg,hgr]
    have e':pX (W k) o t=if oP ((dF (v.ps k).rg t.p).getD zA).g (iU o.kind) (rC (W k) t) o.tag≠0 then(oP ((dF (v.ps k).rg t.p).getD zA).g (iU o.kind) (rC (W k) t) o.tag,max (t.p*64+t.f) (t.p*64+(t.f/16+sF ((dF (v.ps k).rg t.p).getD zA).g (iU o.kind) (rC (W k) t) o.tag)*16)) else(0,0):=by
     unfold pX;rw[<-e2,<-e3,if_neg hf,if_neg Pw]
    have hps:(jW v k t.p false).ps=v.ps:=by rw[Wy];exact H.ps
    have hS:gK (jW v k t.p false) W:=by rw[Wy];exact S
    refine⟨λ_ _ _ _=>by rw[hp,Wy];exact⟨H.ok,H.c.F.tb⟩,?_,?_,?_⟩
    ·rw[e];split<;>exact hS
    ·rw[e];split<;>exact hps
    ·rw[e,hp,e']
     by_cases c:oP ((dF (v.ps k).rg t.p).getD zA).g (iU o.kind) (rC (W k) t) o.tag=0
     ·rw[if_pos c,if_neg (not_not_intro c)]
     ·rw[if_neg c,if_pos c]
theorem aBD (hok:Mt W) (o:aL) {k:Nat} (hk:k<4) (hp:o.proc.toNat=k):∀(l:List mP) (v:Vm),gK v W->(v.ps k).live=true->(∀t∈l,0<=t.p/\t.p<64/\0<=t.f/\t.f<t.t/\t.t<=64)->
 Zq v o l/\gK (dB v o l).1 W/\(dB v o l).1.ps=v.ps/\(dB v o l).2=nD (W o.proc.toNat) o l
 | [],v,h,_,_=>⟨trivial,h,rfl,rfl⟩
 |t::l,v,h,hv,ht=>by
  obtain⟨b1,b2,b3,b4,b5⟩:=ht t List.mem_cons_self;have S:=aKQ h hok o hk hp hv t b1 b2 b3 b4 b5;obtain⟨r1,r2,r3,r4⟩:=aBD hok o hk hp l (gH v o t).1 S.sim (by rw[S.ps];exact hv) (λt ht'=>ht t (List.mem_cons_of_mem _ ht'));have e:(gH v o t).2.1=(pX (W o.proc.toNat) o t).1:=by rw[S.eq]
  by_cases c:(pX (W o.proc.toNat) o t).1≠0
  ·have e1:dB v o (t::l)=gH v o t:=by unfold dB;rw[e,if_pos c]
   refine⟨⟨S.ok,λh0=>absurd h0 (by rw[e];exact c)⟩,by rw[e1];exact S.sim,by rw[e1];exact S.ps,?_⟩;rw[e1,S.eq];unfold nD;rw[if_pos c]
  ·have e1:dB v o (t::l)=dB (gH v o t).1 o l:=by
    show(if(gH v o t).2.1≠0 then gH v o t else dB (gH v o t).1 o l)=_;rw[e,if_neg c]
   refine⟨⟨S.ok,λ_=>r1⟩,by rw[e1];exact r2,by rw[e1,r3,S.ps],?_⟩;rw[e1,r4];show _=if(pX (W o.proc.toNat) o t).1≠0 then _ else _;rw[if_neg c]
end
end
section
def iE (o:aL) (p:Fp) (n:Int):Fp:=if o.kind=13 then { p with tg:=Cj p.tg o.addr n o.tag } else if o.kind=11 then { p with bt:=sZ p.bt o.addr n o.value } else p
theorem D6 (o:aL) (p:Fp) (n:Int):(iE o p n).rg=p.rg/\(iE o p n).ks=p.ks/\(iE o p n).live=p.live:=by
 unfold iE;split
 ·exact⟨rfl,rfl,rfl⟩
 ·split<;>exact⟨rfl,rfl,rfl⟩
theorem aIC {W:Fw} (h:Mt W) (o:aL) {k:Nat} (hk:k<4) (n:Int):Mt (eO W k (iE o (W k) n)):=by
 have e:=(D6 o (W k) n).1;refine⟨λj hj=> ?_,?_⟩
 ·by_cases c:j=k
  ·subst c;rw[dN,e];exact h.1 j hj
  ·rw[gL _ _ c];exact h.1 j hj
 ·rw[Wn W hk,e];have:=h.2;omega
section
variable {v:Vm} {W:Fw}
theorem gK.tags (h:gK v W) {k p n:Nat} (hk:k<4) (hp:p<64) (hn:n<64) (he:aA v (64*k+p)=(1,(n:Int))) (un:∀j,j<256->j≠64*k+p->aA v j≠(1,(n:Int))) {tag:Int} (t0:0<=tag) (t1:tag<16) {a m:Nat} (ha:a+m<=4)
 {q:Fp} (q1:q.rg=(W k).rg/\q.ks=(W k).ks/\q.live=(W k).live) (q2:q.bt=(W k).bt) (q3:∀p',p'<64->∀g,g<4->q.tg p' g=if p'=p/\a<=g/\g<a+m then tag else(W k).tg p' g):gK { v with ts:=mD v.ts n tag a m } (eO W k q):=by
 have hg:∀(N g:Nat),N<64->g<4->dZ (mD v.ts n tag a m) ((N:Int)*4+(g:Int))=if N=n/\a<=g/\g<a+m then tag else dZ v.ts ((N:Int)*4+(g:Int)):=λN g hN hg=>by
  rw[aAa h.co.F.tl h.co.F.tb (show(0:Int)<=n by omega) (show(n:Int)<64 by omega) (by omega) (by omega) t0 t1 a m ha];by_cases c:N=n/\a<=g/\g<a+m
  ·rw[if_pos c,if_pos (by omega)]
  ·rw[if_neg c,if_neg (by omega)]
 have hE:∀j,aA { v with ts:=mD v.ts n tag a m } j=aA v j:=λ_=>rfl;refine⟨⟨h.co.T,⟨by show(mD v.ts n tag a m).length=128;rw[Ny];exact h.co.F.tl,Ay h.co.F.tb n t0 t1 a m,h.co.F.dl,h.co.F.ds,h.co.F.ul,h.co.F.h0,h.co.F.h1⟩,h.co.A,h.co.L⟩,h.l8,h.rg,λj hj=> ?_,λj hj p' hp' i hi=> ?_,λj hj p' hp' g hg'=> ?_⟩
 ·by_cases c:j=k
  ·subst c;rw[dN,q1.1,q1.2.1,q1.2.2];exact h.eq j hj
  ·rw[gL _ _ c];exact h.eq j hj
 ·have e:cb { v with ts:=mD v.ts n tag a m } (64*j+p') i=cb v (64*j+p') i:=rfl
  rw[e,<-h.bt j hj p' hp' i hi];by_cases c:j=k
  ·subst c;rw[dN,q2]
  ·rw[gL _ _ c]
 ·have hjj:64*j+p'<256:=by omega
  have e:ct { v with ts:=mD v.ts n tag a m } (64*j+p') g=if j=k/\p'=p/\a<=g/\g<a+m then tag else ct v (64*j+p') g:=by
   unfold ct;rw[hE];by_cases b:(aA v (64*j+p')).1=1
   ·obtain⟨N,hN⟩:∃N:Nat,(aA v (64*j+p')).2=N:=⟨_,(Int.toNat_of_nonneg (h.co.jP hjj).2.2.1).symm⟩
    have hN6:N<64:=by have:=h.co.jP hjj;omega
    rw[if_pos b,if_pos b,hN];show dZ (mD v.ts n tag a m) _=_;rw[hg N g hN6 hg'];by_cases c:64*j+p'=64*k+p
    ·obtain rfl:j=k:=by omega
     obtain rfl:p'=p:=by omega
     have:N=n:=by rw[he] at hN;simp at hN;omega
     by_cases d:a<=g/\g<a+m
     ·rw[if_pos ⟨this,d⟩,if_pos ⟨rfl,rfl,d⟩]
     ·rw[if_neg (λh=>d h.2),if_neg (λh=>d h.2.2)]
    ·have:N≠n:=λhh=>un _ hjj c (Prod.ext b (by rw[hN,hh]))
     rw[if_neg (λh=>this h.1),if_neg (λh=>c (by rw[h.1,h.2.1]))]
   ·rw[if_neg b,if_neg b]
    have:¬(j=k/\p'=p/\a<=g/\g<a+m):=λhh=>b (by rw[hh.1,hh.2.1,he]);rw[if_neg this];rfl
  rw[e];by_cases c:j=k
  ·subst c;rw[dN,q3 p' hp' g hg',h.tg j hj p' hp' g hg']
   by_cases d:p'=p/\a<=g/\g<a+m
   ·rw[if_pos d,if_pos ⟨rfl,d⟩]
   ·rw[if_neg d,if_neg (λh=>d h.2)]
  ·rw[gL _ _ c,if_neg (λh=>c h.1)];exact h.tg j hj p' hp' g hg'
theorem gK.bytes (h:gK v W) {k p n:Nat} (hk:k<4) (hp:p<64) (hn:n<64) (he:aA v (64*k+p)=(1,(n:Int))) (un:∀j,j<256->j≠64*k+p->aA v j≠(1,(n:Int))) (value:Int) (m0:Nat) {a c:Nat} (ha:a+c<=64)
 {q:Fp} (q1:q.rg=(W k).rg/\q.ks=(W k).ks/\q.live=(W k).live) (q2:q.tg=(W k).tg) (q3:∀p',p'<64->∀i,i<64->q.bt p' i=if p'=p/\a<=i/\i<a+c then value/256^(m0+(i -a))%256 else(W k).bt p' i):gK { v with zs:=storeT v.zs n a value m0 c } (eO W k q):=by
 have nt:∀t,t<36->aI v t≠n:=λt ht=>by have:=h.co.A.et (64*k+p) (by omega) (by rw[he]) t ht;rw[he] at this;exact this
 have hd:=aHE (zs:=v.zs) (f:=(n:Int)) (a:=(a:Int)) value m0 c (by omega) (by omega) (by omega);obtain⟨c1,e1,_,_⟩:=h.co.dif hn nt hd (Nz h.co.T.zb n a value m0 c);have hb:∀i,i<64->(storeT v.zs n a value m0 c).getD (((n:Int)*64).toNat+i) 0=if a<=i/\i<a+c then value/256^(m0+(i -a))%256 else v.zs.getD (((n:Int)*64).toNat+i) 0:=λi hi=>by
  by_cases d:a<=i/\i<a+c
  ·rw[if_pos d,aAe _ _ _ _ _ _ _ (by omega) (by omega) (by rw[h.co.T.zl];omega),show((n:Int)*64).toNat+i - ((n:Int)*64+(a:Int)).toNat=i -a by omega]
  ·rw[if_neg d,J8 _ _ _ _ _ _ _ (by omega)]
 have hE:∀j,j<256->aA { v with zs:=storeT v.zs n a value m0 c } j=aA v j:=e1;refine⟨c1,h.l8,λj hj p' hp' hz=>h.rg j hj p' hp' (by rw[hE _ (by omega)] at hz;exact hz),λj hj=> ?_,λj hj p' hp' i hi=> ?_,λj hj p' hp' g hg'=> ?_⟩
 ·by_cases c:j=k
  ·subst c;rw[dN,q1.1,q1.2.1,q1.2.2];exact h.eq j hj
  ·rw[gL _ _ c];exact h.eq j hj
 ·have hjj:64*j+p'<256:=by omega
  have e:cb { v with zs:=storeT v.zs n a value m0 c } (64*j+p') i=if j=k/\p'=p/\a<=i/\i<a+c then value/256^(m0+(i -a))%256 else cb v (64*j+p') i:=by
   unfold cb;rw[hE _ hjj];by_cases b:(aA v (64*j+p')).1=1
   ·obtain⟨N,hN⟩:∃N:Nat,(aA v (64*j+p')).2=N:=⟨_,(Int.toNat_of_nonneg (h.co.jP hjj).2.2.1).symm⟩
    rw[if_pos b,if_pos b,hN];show(storeT v.zs n a value m0 c).getD _ 0=_;by_cases c':64*j+p'=64*k+p
    ·obtain rfl:j=k:=by omega
     obtain rfl:p'=p:=by omega
     have:N=n:=by rw[he] at hN;simp at hN;omega
     subst this;rw[hb i hi];by_cases d:a<=i/\i<a+c
     ·rw[if_pos d,if_pos ⟨rfl,rfl,d⟩]
     ·rw[if_neg d,if_neg (λh=>d h.2.2)]
    ·have:N≠n:=λhh=>un _ hjj c' (Prod.ext b (by rw[hN,hh]))
     rw[if_neg (λh=>c' (by rw[h.1,h.2.1]))];exact hd.byte (by omega) (by omega) hi
   ·rw[if_neg b,if_neg b]
    have:¬(j=k/\p'=p/\a<=i/\i<a+c):=λhh=>b (by rw[hh.1,hh.2.1,he]);rw[if_neg this];rfl
  rw[e];by_cases c':j=k
  ·subst c';rw[dN,q3 p' hp' i hi,h.bt j hj p' hp' i hi]
   by_cases d:p'=p/\a<=i/\i<a+c
   ·rw[if_pos d,if_pos ⟨rfl,d⟩]
   ·rw[if_neg d,if_neg (λh=>d h.2)]
  ·rw[gL _ _ c',if_neg (λh=>c' h.1)];exact h.bt j hj p' hp' i hi
 ·have hjj:64*j+p'<256:=by omega
  have e:ct { v with zs:=storeT v.zs n a value m0 c } (64*j+p') g=ct v (64*j+p') g:=by
   unfold ct;rw[hE _ hjj];rfl
  rw[e,<-h.tg j hj p' hp' g hg'];by_cases c:j=k
  ·subst c;rw[dN,q2]
  ·rw[gL _ _ c]
end
end
section
section
variable {W:Fw}
theorem Wp (b:Nat->Nat->Int) (addr:Int) (n:Nat):∀c,yJ b addr (n+c)=yJ b addr n+(List.range c).foldl (λs j=>s+Fh b (addr+((n+j:Nat):Int))*256^(n+j)) 0
 |0=>by simp
 |c+1=>by
  rw[List.range_succ,List.foldl_append,<-Nat.add_assoc];show yJ b addr (n+c)+Fh b (addr+((n+c:Nat):Int))*256^(n+c)=_;rw[Wp b addr n c];simp;omega
theorem aAu (zs:List Int) (f a:Int) (n:Nat):∀c,loadT zs f a n c=(List.range c).foldl (λs j=>s+zs.getD ((f*64+a).toNat+j) 0*256^(n+j)) 0
 |0=>rfl
 |c+1=>by
  rw[List.range_succ,List.foldl_append];show loadT zs f a n c+zs.getD ((f*64+a).toNat+c) 0*256^(n+c)=_;rw[aAu zs f a n c];rfl
theorem foldl_eq {f g:Nat->Int} :∀(c:Nat),(∀j,j<c->f j=g j)->(List.range c).foldl (λs j=>s+f j) 0=(List.range c).foldl (λs j=>s+g j) 0
 |0,_=>rfl
 |c+1,h=>by
  rw[List.range_succ,List.foldl_append,List.foldl_append,foldl_eq c (λj hj=>h j (by omega))];simp[h c (by omega)]
structure Tcs (v:Vm) (W:Fw) (o:aL) (k n0:Nat) (l:List mP):Prop where
 ok:Qi v o n0 l
 sim:gK (dG v o n0 l).1 (eO W k (iE o (W k) (aU o)))
 ps:(dG v o n0 l).1.ps=v.ps
 val:(dG v o n0 l).2=if o.kind=13\/o.kind=11 then 0 else yJ (W k).bt o.addr (aU o).toNat -yJ (W k).bt o.addr n0
theorem V3 (hok:Mt W) (o:aL) {k:Nat} (hk:k<4) (hp:o.proc.toNat=k) (h0:0<=o.addr) (h1:1<=aU o) (h2:o.addr+aU o<=4096) (hkd:10<=o.kind/\o.kind<=13) (ht0:0<=o.tag/\o.tag<=15) (Pw:o.kind=13->o.addr%16=0/\aU o%16=0)
 (hin:∀q,o.addr<=q->q<o.addr+aU o->(dF (W k).rg (q/64)).isSome=true):∀(f n0:Nat) (v:Vm),gK v (eO W k (iE o (W k) n0))->(v.ps k).live=true->(n0:Int)<=aU o->(o.kind=13->n0%16=0)->H6 (o.addr+aU o) (o.addr+n0) f->
 Tcs v W o k n0 (kP (o.addr+aU o) f (o.addr+n0))
 |f,n0,v,hs,hv,hn,h16,hfu=>by
  by_cases hlt:o.addr+n0<o.addr+aU o
  ·cases f with
   |zero=>unfold H6 at hfu;omega
   |succ f=>
    obtain⟨p,Wy⟩:∃p:Nat,(o.addr+n0)/64=p:=⟨((o.addr+n0)/64).toNat,by omega⟩;obtain⟨ki,hki⟩:∃ki:Nat,o.addr+n0=p*64+ki:=⟨(o.addr+n0 -p*64).toNat,by omega⟩;have jZ:p<64:=by omega
    have hk6:ki<64:=by omega
    obtain⟨c,hc⟩:∃c:Nat,min (o.addr+aU o) (((p:Int)+1)*64)=p*64+ki+c:=⟨(min (o.addr+aU o) (((p:Int)+1)*64) -p*64 -ki).toNat,by omega⟩;have hc1:1<=c:=by omega
    have hc6:ki+c<=64:=by omega
    have hsz:((n0+c:Nat):Int)<=aU o:=by omega
    have aOy:kP (o.addr+aU o) (f+1) (o.addr+n0)=⟨p,ki,ki+c⟩::kP (o.addr+aU o) f (o.addr+((n0+c:Nat):Int)):=by
     show(if o.addr+(n0:Int)<o.addr+aU o then _ else _)=_;rw[if_pos hlt,Wy,hc];congr 1
     ·congr 1
      ·omega
      ·omega
     ·congr 1;omega
    rw[aOy];have hcc:(((ki:Int)+c) -ki).toNat=c:=by omega
    obtain⟨w,hw⟩:∃w,w=(iU o.kind==2):=⟨_,rfl⟩;have hin2:(dF (v.ps k).rg (p:Int)).isSome=true:=by
     rw[(hs.eq k hk).2.1,dN,(D6 o (W k) n0).1,<-Wy];exact hin _ (by omega) hlt
    obtain⟨n,H,S⟩:=hs.here (aIC hok o hk n0) hk hv jZ hin2 w;obtain⟨u,hu⟩:∃u,u=jW v k p w:=⟨_,rfl⟩;rw[<-hu] at H S;have hok1:aNG v o ⟨p,ki,ki+c⟩:=⟨by rw[hp,<-hw];exact H.ok,by rw[hp,<-hw];show Bytes (jW v k p w).zs;rw[<-hu];exact H.c.T.zb,by rw[hp,<-hw];show Bytes (jW v k p w).ts;rw[<-hu];exact H.c.F.tb⟩;obtain⟨x,hx,hsx,hpx⟩:∃x:Vm×Int,nC v o ⟨p,ki,ki+c⟩ n0=x/\(gK x.1 (eO W k (iE o (W k) ((n0+c:Nat):Int)))/\x.1.ps=v.ps)/\(x.2=if o.kind=13\/o.kind=11 then 0 else yJ (W k).bt o.addr (n0+c) -yJ (W k).bt o.addr n0):=by
     have e0:nC v o ⟨p,ki,ki+c⟩ n0=if o.kind=13 then({ u with ts:=mD u.ts n o.tag (ki/16) (((ki+c:Nat):Int)/16 - (ki:Int)/16).toNat },0) else if o.kind=11 then({ u with zs:=storeT u.zs n ki o.value n0 c },0) else(u,loadT u.zs n ki n0 c):=by
      unfold nC;simp only[hp,<-hw,H.hn,<-hu,hcc];rw[show((ki:Int)/16).toNat=ki/16 by omega,show((ki:Int)+(c:Int))=((ki+c:Nat):Int) by omega]
     refine⟨_,rfl,?_,?_⟩
     ·rw[e0]
      by_cases k13:o.kind=13
      ·rw[if_pos k13]
       have hwt:w=true:=by rw[hw,k13];rfl
       obtain⟨b1,b2⟩:=Pw k13;have b3:=h16 k13;refine⟨?_,H.ps⟩
       have:=S.tags hk jZ H.lt H.en (H.un hwt) (tag:=o.tag) ht0.1 (by omega) (a:=ki/16) (m:=(((ki+c:Nat):Int)/16 - (ki:Int)/16).toNat) (by omega) (q:=iE o (W k) ((n0+c:Nat):Int)) (by rw[dN];obtain⟨x1,x2,x3⟩:=D6 o (W k) ((n0+c:Nat):Int);obtain⟨y1,y2,y3⟩:=D6 o (W k) (n0:Int);exact⟨by rw[x1,y1],by rw[x2,y2],by rw[x3,y3]⟩) (by rw[dN];unfold iE;rw[if_pos k13,if_pos k13]) (λp' hp' g hg=>by
        rw[dN];unfold iE;rw[if_pos k13,if_pos k13];show Cj (W k).tg o.addr _ o.tag p' g=if _ then _ else Cj (W k).tg o.addr _ o.tag p' g;unfold Cj;by_cases d:p'=p/\ki/16<=g/\g<ki/16+(((ki+c:Nat):Int)/16 - (ki:Int)/16).toNat
        ·rw[if_pos d,if_pos (by obtain⟨d1,d2,d3⟩:=d;subst d1;omega)]
        ·rw[if_neg d]
         by_cases d2:o.addr<=((p'*64+g*16:Nat):Int)/\((p'*64+g*16:Nat):Int)<o.addr+(n0:Int)
         ·rw[if_pos d2,if_pos (by omega)]
         ·rw[if_neg d2,if_neg]
          intro d3;refine d ?_;have:p'=p:=by omega
          subst this;omega)
       have hup:eO (eO W k (iE o (W k) (n0:Int))) k (iE o (W k) ((n0+c:Nat):Int))=eO W k (iE o (W k) ((n0+c:Nat):Int)):=by funext j;unfold eO;split<;>rfl
       rw[hup] at this;exact this
      ·rw[if_neg k13]
       by_cases k11:o.kind=11
       ·rw[if_pos k11]
        have hwt:w=true:=by rw[hw,k11];rfl
        refine⟨?_,H.ps⟩
        have:=S.bytes hk jZ H.lt H.en (H.un hwt) o.value n0 (a:=ki) (c:=c) hc6 (q:=iE o (W k) ((n0+c:Nat):Int)) (by rw[dN];obtain⟨x1,x2,x3⟩:=D6 o (W k) ((n0+c:Nat):Int);obtain⟨y1,y2,y3⟩:=D6 o (W k) (n0:Int);exact⟨by rw[x1,y1],by rw[x2,y2],by rw[x3,y3]⟩) (by rw[dN];unfold iE;rw[if_neg k13,if_neg k13,if_pos k11,if_pos k11]) (λp' hp' i hi=>by
         rw[dN];unfold iE;rw[if_neg k13,if_neg k13,if_pos k11,if_pos k11];show sZ (W k).bt o.addr _ o.value p' i=if _ then _ else sZ (W k).bt o.addr _ o.value p' i;unfold sZ;by_cases d:p'=p/\ki<=i/\i<ki+c
         ·rw[if_pos d,if_pos (by obtain⟨d1,d2,d3⟩:=d;subst d1;omega)]
          obtain⟨d1,d2,d3⟩:=d;rw[show(((p'*64+i:Nat):Int) -o.addr).toNat=n0+(i -ki) by subst d1;omega]
         ·rw[if_neg d]
          by_cases d2:o.addr<=((p'*64+i:Nat):Int)/\((p'*64+i:Nat):Int)<o.addr+(n0:Int)
          ·rw[if_pos d2,if_pos (by omega)]
          ·rw[if_neg d2,if_neg]
           intro d3;refine d ?_;have:p'=p:=by omega
           subst this;omega)
        have hup:eO (eO W k (iE o (W k) (n0:Int))) k (iE o (W k) ((n0+c:Nat):Int))=eO W k (iE o (W k) ((n0+c:Nat):Int)):=by funext j;unfold eO;split<;>rfl
        rw[hup] at this;exact this
       ·rw[if_neg k11]
        refine⟨?_,H.ps⟩;have e1:∀m:Int,iE o (W k) m=W k:=λm=>by unfold iE;rw[if_neg k13,if_neg k11]
        rw[e1] at S⊢;exact S
     ·rw[e0]
      by_cases k13:o.kind=13
      ·rw[if_pos k13,if_pos (.inl k13)]
      ·rw[if_neg k13]
       by_cases k11:o.kind=11
       ·rw[if_pos k11,if_pos (.inr k11)]
       ·rw[if_neg k11,if_neg (λh=>h.elim k13 k11),Wp,aAu]
        show(List.range c).foldl (λs j=>s+u.zs.getD (((n:Int)*64+(ki:Int)).toNat+j) 0*256^(n0+j)) 0=_
        rw[foldl_eq (f:=λj=>u.zs.getD (((n:Int)*64+(ki:Int)).toNat+j) 0*256^(n0+j)) (g:=λj=>Fh (W k).bt (o.addr+((n0+j:Nat):Int))*256^(n0+j)) c (λj hj=>by
         have e1:iE o (W k) (n0:Int)=W k:=by unfold iE;rw[if_neg k13,if_neg k11]
         have hb:=S.bt k hk p jZ (ki+j) (by omega);rw[dN,e1] at hb;unfold cb at hb;rw[H.en,if_pos rfl] at hb;unfold Fh
         rw[show((o.addr+((n0+j:Nat):Int))/64).toNat=p by omega,show((o.addr+((n0+j:Nat):Int))%64).toNat=ki+j by omega,hb,show((n:Int)*64+(ki:Int)).toNat+j=((n:Int)*64).toNat+(ki+j) by omega])]
        omega
    have hxs:dG v o n0 (⟨p,ki,ki+c⟩::kP (o.addr+aU o) f (o.addr+((n0+c:Nat):Int)))=((dG x.1 o (n0+c) (kP (o.addr+aU o) f (o.addr+((n0+c:Nat):Int)))).1,x.2+(dG x.1 o (n0+c) (kP (o.addr+aU o) f (o.addr+((n0+c:Nat):Int)))).2):=by
     show((dG (nC v o ⟨p,ki,ki+c⟩ n0).1 o (n0+(((ki:Int)+c) -ki).toNat) _).1,_+_)=_;rw[hx,hcc]
    have T:=V3 hok o hk hp h0 h1 h2 hkd ht0 Pw hin f (n0+c) x.1 hsx.1 (by rw[hsx.2];exact hv) hsz (λh=>by have:=Pw h;have:=h16 h;omega) (by unfold H6 at hfu⊢;omega);refine⟨⟨hok1,?_⟩,by rw[hxs];exact T.sim,by rw[hxs];show(dG x.1 o (n0+c) _).1.ps=_;rw[T.ps,hsx.2],?_⟩
    ·show Qi (nC v o ⟨p,ki,ki+c⟩ n0).1 o (n0+(((ki:Int)+c) -ki).toNat) _
     rw[hx,hcc];exact T.ok
    ·rw[hxs]
     show x.2+(dG x.1 o (n0+c) _).2=_;rw[T.val,hpx];by_cases d:o.kind=13\/o.kind=11
     ·rw[if_pos d,if_pos d,if_pos d];rfl
     ·rw[if_neg d,if_neg d,if_neg d];omega
  ·have hnn:aU o=n0:=by omega
   have he:kP (o.addr+aU o) f (o.addr+n0)=[]:=by
    cases f with
    |zero=>rfl
    |succ f=>show(if o.addr+(n0:Int)<o.addr+aU o then _ else _)=_;rw[if_neg hlt]
   rw[he];refine⟨trivial,?_,rfl,?_⟩
   ·rw[hnn];exact hs
   ·show(0:Int)=_
    rw[hnn,Int.toNat_natCast];split<;>omega
end
end
section
theorem Ns (W:Fw) (k:Nat):eO W k (W k)=W:=by
 funext j;unfold eO;split
 ·next e=>rw[e]
 ·rfl
theorem aG0 (o:aL) (p:Fp):iE o p 0=p:=by
 unfold iE;split
 ·have:Cj p.tg o.addr 0 o.tag=p.tg:=by funext n i;unfold Cj;rw[if_neg (by omega)]
  rw[this]
 ·split
  ·have:sZ p.bt o.addr 0 o.value=p.bt:=by funext n i;unfold sZ;rw[if_neg (by omega)]
   rw[this]
  ·rfl
section
variable {v:Vm} {W:Fw}
structure Lok (v:Vm) (W:Fw) (o:aL) (k:Nat):Prop where
 ss:gM o=true->Zq v o (dD o.addr (aU o))
 ts:gM o=true->(dB v o (dD o.addr (aU o))).2.1=0->Qi (dB v o (dD o.addr (aU o))).1 o 0 (dD o.addr (aU o))
 sim:gK (o7 v o).1 (eO W k (o8 (W k) o).1)
 eq:(o7 v o).2=(o8 (W k) o).2
theorem look_ok (h:gK v W) (hok:Mt W) (o:aL) {k:Nat} (hk:k<4) (hp:o.proc.toNat=k) (hv:(v.ps k).live=true) (hkd:10<=o.kind/\o.kind<=13):Lok v W o k:=by
 cases hr:gM o with
 |false=>
  have e1:o7 v o=(v,aB 2):=by unfold o7;rw[if_pos hr]
  have e2:o8 (W k) o=(W k,aB 2):=by unfold o8;rw[if_pos hr]
  exact⟨λh=>(by rw[hr] at h;cases h),λh=>(by rw[hr] at h;cases h),by rw[e1,e2];show gK v (eO W k (W k));rw[Ns];exact h,by rw[e1,e2]⟩
 |true=>
  obtain⟨f1,f2,f3,f4,f5,f6,f7⟩:=Ba hr;have hnr:¬(gM o=false):=by rw[hr];simp
  obtain⟨l,hl⟩:∃l,l=dD o.addr (aU o):=⟨_,rfl⟩;have hta:∀t∈l,0<=t.p/\t.p<64/\0<=t.f/\t.f<t.t/\t.t<=64:=λt ht=>by
   rw[hl] at ht;have:=Ua 65 (o.addr+aU o) o.addr f3 f5 t ht;exact⟨this.1,this.2.1,this.2.2.1,this.2.2.2.1,this.2.2.2.2.1⟩
  obtain⟨s1,s2,s3,s4⟩:=aBD hok o hk hp l v h hv hta;obtain⟨u,hu⟩:∃u,u=(dB v o l).1:=⟨_,rfl⟩;have e1:o7 v o=if(dB v o l).2.1≠0 then((dB v o l).1,Ca (dB v o l).2.1 (dB v o l).2.2) else((dG (dB v o l).1 o 0 l).1,⟨0,(dG (dB v o l).1 o 0 l).2,0,0⟩):=by
   unfold o7;rw[if_neg hnr,<-hl]
  have e2:o8 (W k) o=if(nD (W k) o l).1≠0 then(W k,Ca (nD (W k) o l).1 (nD (W k) o l).2) else(iE o (W k) (aU o),if o.kind=13\/o.kind=11 then aB 0 else⟨0,yJ (W k).bt o.addr (aU o).toNat,0,0⟩):=by
   unfold o8;rw[if_neg hnr,<-hl];by_cases c:(nD (W k) o l).1≠0
   ·rw[if_pos c,if_pos c]
   ·rw[if_neg c,if_neg c]
    by_cases k13:o.kind=13
    ·rw[if_pos k13,if_pos (.inl k13)];unfold iE;rw[if_pos k13]
    ·have hsz:aU o=o.size:=by unfold aU;rw[if_neg k13]
     rw[if_neg k13];by_cases k11:o.kind=11
     ·rw[if_pos k11,if_pos (.inr k11)];unfold iE;rw[if_neg k13,if_pos k11,hsz]
     ·rw[if_neg k11,if_neg (λh=>h.elim k13 k11),hsz];unfold iE;rw[if_neg k13,if_neg k11]
  rw[hp] at s4;by_cases c:(nD (W k) o l).1≠0
  ·refine⟨λ_=>by rw[<-hl];exact s1,λ_ h0=>absurd h0 (by rw[<-hl,s4];exact c),?_,?_⟩
   ·rw[e1,e2,s4,if_pos c,if_pos c];show gK (dB v o l).1 (eO W k (W k));rw[Ns];exact s2
   ·rw[e1,e2,s4,if_pos c,if_pos c]
  ·have hin:∀q,o.addr<=q->q<o.addr+aU o->(dF (W k).rg (q/64)).isSome=true:=λq q0 q1=>by
    obtain⟨a,ha,_⟩:=Kw (p:=W k) hr (by rw[<-hl];omega) q0 q1;rw[ha];rfl
   have T:=V3 hok o hk hp f3 f4 f5 hkd ⟨f1,f2⟩ f6 hin 65 0 u (by
    rw[show((0:Nat):Int)=0 from rfl,aG0,Ns,hu];exact s2) (by rw[hu,s3];exact hv) (by omega) (λ_=>rfl) (.inr (by omega))
   rw[show o.addr+((0:Nat):Int)=o.addr by omega] at T;have hl':kP (o.addr+aU o) 65 o.addr=l:=by rw[hl];rfl
   rw[hl'] at T;refine⟨λ_=>by rw[<-hl];exact s1,λ_ _=>by rw[<-hl,<-hu];exact T.ok,?_,?_⟩
   ·rw[e1,e2,s4,if_neg c,if_neg c,<-hu];exact T.sim
   ·rw[e1,e2,s4,if_neg c,if_neg c,<-hu]
    show(⟨0,(dG u o 0 l).2,0,0⟩:bX)=_;rw[T.val];by_cases d:o.kind=13\/o.kind=11
    ·rw[if_pos d,if_pos d];rfl
    ·rw[if_neg d,if_neg d]
     show(⟨0,yJ (W k).bt o.addr (aU o).toNat -0,0,0⟩:bX)=_;rw[Int.sub_zero]
end
end
section
section
variable {v:Vm} {W:Fw}
theorem gK.aFM (h:gK v W):aJ8 v/\gK (bE v) W/\(bE v).ps=v.ps:=by
 have hk:∀_:zL v=true,_:=λhb=>aCX h.co (aCt v) hb;refine⟨⟨h.co.F.tb,h.co.V9 Ik,by have:=h.l8;omega,λhb=>by obtain⟨F,S,e,_⟩:=hk hb;exact⟨F,S,e⟩⟩,?_,aAJ v⟩;cases hb:zL v with
 |false=>rw[Li hb];exact h
 |true=>
  obtain⟨F,S,e1,e2,e3,e4,e5⟩:=hk hb;exact⟨e2,Nat.le_trans (aAI v) h.l8,λk hk p hp hz=>by rw[e3.ps];exact h.rg k hk p hp (λhh=>hz ((e3.no _ (by omega)).2 hh)),λk hk=>by rw[e3.ps];exact h.eq k hk,λk hk p hp i hi=>by rw[e3.cb _ (by omega) i hi];exact h.bt k hk p hp i hi,λk hk p hp i hi=>by rw[e3.ct _ (by omega) i hi];exact h.tg k hk p hp i hi⟩
theorem We:∀(n:Nat) (v:Vm),gK v W->Zr v n/\gK (mZ v n) W
 |0,v,h=>⟨trivial,h⟩
 |n+1,v,h=>by
  obtain⟨e1,e2,_⟩:=h.aFM;obtain⟨r1,r2⟩:=We n (bE v) e2;refine⟨⟨e1,λ_=>r1⟩,?_⟩;show gK (if zL v then mZ (bE v) n else v) W;split
  ·exact r2
  ·exact h
theorem gK.keys (h:gK v W) {k:Nat} (hk:k<4) (K:aJ):gK (Eu v k K) (eO W k { W k with ks:=K }):=by
 have hp:∀j,(Eu v k K).ps j=if j=k then { v.ps k with ks:=K } else v.ps j:=λj=>rfl;have hlv:∀j,((Eu v k K).ps j).live=(v.ps j).live/\((Eu v k K).ps j).root=(v.ps j).root/\((Eu v k K).ps j).rg=(v.ps j).rg:=λj=>by
  rw[hp];split
  ·next e=>subst e;exact⟨rfl,rfl,rfl⟩
  ·exact⟨rfl,rfl,rfl⟩
 have hE:∀i,aA (Eu v k K) i=aA v i:=λi=>by unfold aA gF;rw[(hlv _).1,(hlv _).2.1];rfl
 have hT:∀t,aI (Eu v k K) t=aI v t:=λt=>by unfold aI;rw[(hlv _).1,(hlv _).2.1];rfl
 have T:=h.co.T;refine⟨⟨⟨T.zl,T.zb,λj hj hv=> ?_,λj hj hv=> ?_,λj hj hv=> ?_,λj hj hv l hl hv2=> ?_,λj hj hv l hl hv2=> ?_,λj hj hv l hl hv2=> ?_⟩,⟨h.co.F.tl,h.co.F.tb,h.co.F.dl,h.co.F.ds,h.co.F.ul,h.co.F.h0,h.co.F.h1⟩,h.co.A.congr (λi _=>hE i) (λt _=>hT t) (λ_ _=>rfl) (λ_ _=>rfl) (λ_ _=>rfl),λc hc=> ?_⟩,h.l8,λj hj p hp' hz=> ?_,λj hj=> ?_,λj hj p hp' i hi=> ?_,λj hj p hp' i hi=> ?_⟩
 ·rw[(hlv j).1] at hv;rw[(hlv j).2.1];exact T.root j hj hv
 ·rw[(hlv j).1] at hv;rw[(hlv j).2.1];exact T.leaf j hj hv
 ·rw[(hlv j).1] at hv;rw[(hlv j).2.1];exact T.get j hj hv
 ·rw[(hlv j).1] at hv;rw[(hlv l).1] at hv2;rw[(hlv j).2.1,(hlv l).2.1];exact T.rr j hj hv l hl hv2
 ·rw[(hlv j).1] at hv;rw[(hlv l).1] at hv2;rw[(hlv j).2.1,(hlv l).2.1];exact T.rl j hj hv l hl hv2
 ·rw[(hlv j).1] at hv;rw[(hlv l).1] at hv2;rw[(hlv j).2.1,(hlv l).2.1];exact T.ll j hj hv l hl hv2
 ·obtain⟨i,hi,d1,d2,d3,d4⟩:=h.co.L c hc
  exact⟨i,hi,d1,d2,d3,by rw[hE];exact d4⟩
 ·rw[(hlv j).2.2];exact h.rg j hj p hp' (by rw[hE] at hz;exact hz)
 ·obtain⟨e1,e2,e3⟩:=h.eq j hj
  by_cases c:j=k
  ·subst c;rw[dN,(hlv j).1,(hlv j).2.2,hp,if_pos rfl];exact⟨e1,e2,rfl⟩
  ·rw[gL _ _ c,hp,if_neg c];exact⟨e1,e2,e3⟩
 ·have e:cb (Eu v k K) (64*j+p) i=cb v (64*j+p) i:=by unfold cb;rw[hE];rfl
  rw[e,<-h.bt j hj p hp' i hi];by_cases c:j=k
  ·subst c;rw[dN]
  ·rw[gL _ _ c]
 ·have e:ct (Eu v k K) (64*j+p) i=ct v (64*j+p) i:=by unfold ct;rw[hE];rfl
  rw[e,<-h.tg j hj p hp' i hi];by_cases c:j=k
  ·subst c;rw[dN]
  ·rw[gL _ _ c]
end
end
section
section
variable {v:Vm} {W:Fw}
theorem aHJ {x y:Nat->Int} {Wl:List Nat} (h:dX v x y Wl) {ps':Nat->Vp} (hlv:∀j,(ps' j).live=(v.ps j).live/\(ps' j).root=(v.ps j).root):dX { v with ps:=ps' } x y Wl/\(∀i,aA { v with ps:=ps' } i=aA v i)/\∀t,aI { v with ps:=ps' } t=aI v t:=by
 have hE:∀i,aA { v with ps:=ps' } i=aA v i:=λi=>by unfold aA gF;simp only[(hlv _).1,(hlv _).2]
 have hT:∀t,aI { v with ps:=ps' } t=aI v t:=λt=>by unfold aI;simp only[(hlv _).1,(hlv _).2]
 have T:=h.T;refine⟨⟨⟨T.zl,T.zb,λj hj hv=> ?_,λj hj hv=> ?_,λj hj hv=> ?_,λj hj hv l hl hv2=> ?_,λj hj hv l hl hv2=> ?_,λj hj hv l hl hv2=> ?_⟩,⟨h.F.tl,h.F.tb,h.F.dl,h.F.ds,h.F.ul,h.F.h0,h.F.h1⟩,h.A.congr (λi _=>hE i) (λt _=>hT t) (λ_ _=>rfl) (λ_ _=>rfl) (λ_ _=>rfl),λc hc=> ?_⟩,hE,hT⟩
 ·simp only[(hlv _).1,(hlv _).2] at hv⊢;exact T.root j hj hv
 ·simp only[(hlv _).1,(hlv _).2] at hv⊢;exact T.leaf j hj hv
 ·simp only[(hlv _).1,(hlv _).2] at hv⊢;exact T.get j hj hv
 ·simp only[(hlv _).1,(hlv _).2] at hv hv2⊢;exact T.rr j hj hv l hl hv2
 ·simp only[(hlv _).1,(hlv _).2] at hv hv2⊢;exact T.rl j hj hv l hl hv2
 ·simp only[(hlv _).1,(hlv _).2] at hv hv2⊢;exact T.ll j hj hv l hl hv2
 ·obtain⟨i,hi,d1,d2,d3,d4⟩:=h.L c hc
  exact⟨i,hi,d1,d2,d3,by rw[hE];exact d4⟩
theorem gK.regs (h:gK v W) {k:Nat} (hk:k<4) (hv:(v.ps k).live=true) (l:List aC):(∀n,n<64->Q3 (iA (Bn v k l) k l n) k n)/\gK (kL (Bn v k l) k l) (eO W k (Fg { W k with rg:=l })):=by
 have hp:∀j,(Bn v k l).ps j=if j=k then { v.ps k with rg:=l } else v.ps j:=λj=>rfl
 obtain⟨c1,e1,t1⟩:=aHJ h.co (ps':=fJ v.ps k { v.ps k with rg:=l }) (λj=>by
  unfold fJ;by_cases e:j=k
  ·rw[if_pos e,e];exact⟨rfl,rfl⟩
  ·rw[if_neg e];exact⟨rfl,rfl⟩)
 have c2:dX (Bn v k l) ze ze []:=c1;have e2:∀i,aA (Bn v k l) i=aA v i:=e1;obtain⟨E,hE⟩:=U8 c2 (k:=k) (show(Bn v k l).tl.length<=8 from h.l8) hk (by rw[hp,if_pos rfl];exact hv) l 64 (nR _);have hu:iA (Bn v k l) k l 64=kL (Bn v k l) k l:=rfl;rw[hu] at E;obtain⟨u,hu2⟩:∃u,u=kL (Bn v k l) k l:=⟨_,rfl⟩;rw[<-hu2] at E⊢;have key:∀j,j<4->∀p:Nat,p<64->(j≠k\/(dF l (p:Int)).isSome=true)->∀q:Nat,q<64->q<64->(dF l (q:Int)).isSome=false->64*j+p≠64*k+q:=λj hj p jZ hc q hq _ hn hh=>by
  have:j=k:=by omega
  have:p=q:=by omega
  subst this;rcases hc with hc|hc
  ·omega
  ·rw[hn] at hc;cases hc
 refine⟨hE,E.c,E.l8,λj hj p jZ hz=> ?_,λj hj=> ?_,λj hj p jZ i hi=> ?_,λj hj p jZ i hi=> ?_⟩
 ·rw[E.ps,hp]
  by_cases c:j=k
  ·subst c
   rw[if_pos rfl];cases hx:(dF l (p:Int)).isSome with
   |true=>rfl
   |false=>rw[E.en p jZ jZ hx] at hz;exact absurd rfl hz
  ·rw[if_neg c]
   refine h.rg j hj p jZ (λhh=>hz ?_);rw[E.eo _ (by omega) (key j hj p jZ (.inl c)),e2];exact hh
 ·obtain⟨a1,a2,a3⟩:=h.eq j hj
  rw[E.ps,hp];by_cases c:j=k
  ·subst c;rw[if_pos rfl,dN];exact⟨a1,rfl,a3⟩
  ·rw[if_neg c,gL _ _ c];exact⟨a1,a2,a3⟩
 ·by_cases c:j=k
  ·subst c
   rw[dN];show(if(dF l (p:Int)).isNone then 0 else(W j).bt p i)=_;cases hx:(dF l (p:Int)).isSome with
   |true=>
    rw[if_neg (by rw[Option.isNone_iff_eq_none];intro hh;rw[hh] at hx;cases hx),E.bs _ (by omega) (key j hj p jZ (.inr hx)) i hi,h.bt j hj p jZ i hi];unfold cb;rw[e2];rfl
   |false=>
    rw[if_pos (by cases hy:dF l (p:Int) with|none=>rfl|some a=>rw[hy] at hx;cases hx)];unfold cb;rw[E.en p jZ jZ hx,if_neg (by decide),if_neg (by decide)]
  ·rw[gL _ _ c,E.bs _ (by omega) (key j hj p jZ (.inl c)) i hi,h.bt j hj p jZ i hi]
   unfold cb;rw[e2];rfl
 ·by_cases c:j=k
  ·subst c
   rw[dN];show(if(dF l (p:Int)).isNone then 0 else(W j).tg p i)=_;cases hx:(dF l (p:Int)).isSome with
   |true=>
    rw[if_neg (by rw[Option.isNone_iff_eq_none];intro hh;rw[hh] at hx;cases hx),E.gs _ (by omega) (key j hj p jZ (.inr hx)) i hi,h.tg j hj p jZ i hi];unfold ct;rw[e2];rfl
   |false=>
    rw[if_pos (by cases hy:dF l (p:Int) with|none=>rfl|some a=>rw[hy] at hx;cases hx)];unfold ct;rw[E.en p jZ jZ hx,if_neg (by decide),if_neg (by decide)]
  ·rw[gL _ _ c,E.gs _ (by omega) (key j hj p jZ (.inl c)) i hi,h.tg j hj p jZ i hi]
   unfold ct;rw[e2];rfl
end
end
section
section
variable {v:Vm} {W:Fw}
theorem gK.exit (h:gK v W) {k:Nat} (hk:k<4) (hv:(v.ps k).live=true):aF7 v k/\gK (jM v k) (eO W k sV):=by
 have X:=aLP h.co h.l8 hk hv;obtain⟨u,hu⟩:∃u,u=jM v k:=⟨_,rfl⟩;rw[<-hu] at X⊢;have hpk:(u.ps k)=vX:=by rw[X.ps];unfold fJ;rw[if_pos rfl]
 have hpo:∀j,j≠k->u.ps j=v.ps j:=λj hj=>by rw[X.ps];unfold fJ;rw[if_neg hj]
 have hd:∀p,p<64->aA u (64*k+p)=(0,0)/\(∀n,cb u (64*k+p) n=0)/\∀g,ct u (64*k+p) g=0:=λp hp=>aLV (by rw[show(64*k+p)/64=k by omega,hpk];rfl);refine⟨X.ok,X.c,X.l8,λj hj p hp hz=> ?_,λj hj=> ?_,λj hj p hp i hi=> ?_,λj hj p hp i hi=> ?_⟩
 ·by_cases c:j=k
  ·subst c;rw[(hd p hp).1] at hz;exact absurd rfl hz
  ·rw[hpo j c];exact h.rg j hj p hp (by rw[X.eo _ (by omega) (by omega)] at hz;exact hz)
 ·by_cases c:j=k
  ·subst c;rw[hpk,dN];exact⟨rfl,rfl,rfl⟩
  ·rw[hpo j c,gL _ _ c];exact h.eq j hj
 ·by_cases c:j=k
  ·subst c;rw[dN,(hd p hp).2.1 i];rfl
  ·rw[gL _ _ c,X.bs _ (by omega) (by omega) i hi];exact h.bt j hj p hp i hi
 ·by_cases c:j=k
  ·subst c;rw[dN,(hd p hp).2.2 i];rfl
  ·rw[gL _ _ c,X.gs _ (by omega) (by omega) i hi];exact h.tg j hj p hp i hi
theorem aJA (h:gK v W):cZ v=yU W:=by
 unfold cZ yU;rw[(h.eq 0 (by omega)).1,(h.eq 1 (by omega)).1,(h.eq 2 (by omega)).1,(h.eq 3 (by omega)).1]
theorem Xr {v:Vm} (h:cZ v≠4):cZ v<4/\(v.ps (cZ v)).live=false:=by
 unfold cZ at h⊢;by_cases c0:(v.ps 0).live=false
 ·rw[if_pos c0];exact⟨by omega,c0⟩
 rw[if_neg c0] at h⊢;by_cases c1:(v.ps 1).live=false
 ·rw[if_pos c1];exact⟨by omega,c1⟩
 rw[if_neg c1] at h⊢;by_cases c2:(v.ps 2).live=false
 ·rw[if_pos c2];exact⟨by omega,c2⟩
 rw[if_neg c2] at h⊢;by_cases c3:(v.ps 3).live=false
 ·rw[if_pos c3];exact⟨by omega,c3⟩
 rw[if_neg c3] at h;exact absurd rfl h
structure Frk (v u:Vm) (k c n:Nat):Prop where
 co:dX u ze ze []
 l8:u.tl.length<=8
 ps:u.ps=(iN v k c).ps
 en:∀p,p<64->((aA u (64*c+p)).1≠0->p<n/\(aA v (64*k+p)).1≠0)
 no:∀j,j<256->j/64≠c->((aA u j).1=0↔(aA v j).1=0)
 bs:∀j,j<256->j/64≠c->∀i,i<64->cb u j i=cb v j i
 gs:∀j,j<256->j/64≠c->∀g,g<4->ct u j g=ct v j g
 own:∀p,p<n->p<64->∀i,i<64->cb u (64*c+p) i=cb v (64*k+p) i
 Ck:∀p,p<n->p<64->∀g,g<4->ct u (64*c+p) g=ct v (64*k+p) g
 us:dL v<dL u/\dL u -dL v=j4 u -j4 v
 tab:∀t,t<36->t/9≠c->aI u t=aI v t
theorem aGO (h:gK v W) (hok:Mt W) {k c:Nat} (hk:k<4) (hc:c<4) (hkc:k≠c) (hv:(v.ps k).live=true) (hd:(v.ps c).live=false) (hm:cK v+tot (v.ps k).rg<=64):(∃f,vE v f)/\∀n,n<=64->Frk v (iP (iN v k c) k c n) k c n/\∀m,m<n->Yl (iP (iN v k c) k c m) k c m:=by
 have B:=Zo h.co h.l8 (k:=k) hc hd;obtain⟨b,hb⟩:∃b,b=iN v k c:=⟨_,rfl⟩;obtain⟨f,hf⟩:=B.ps;rw[<-hb] at B hf;have hpc:b.ps c=⟨true,f,(v.ps k).rg,(v.ps k).ks⟩:=by rw[hf];unfold fJ;rw[if_pos rfl]
 have hpo:∀j,j≠c->b.ps j=v.ps j:=λj hj=>by rw[hf];unfold fJ;rw[if_neg hj]
 have hright:∀j,j<4->bF (b.ps j).rg=true:=λj hj=>by
  by_cases e:j=c
  ·subst e;rw[hpc];exact h.right hok k hk
  ·rw[hpo j e];exact h.right hok j hj
 have hmap:cK b<=64:=by
  have h0:=rZ (h.right hok c hc);have e:cK b=cK v+tot (v.ps k).rg -tot (v.ps c).rg:=by
   unfold cK;have:c=0\/c=1\/c=2\/c=3:=by omega
   rcases this with rfl|rfl|rfl|rfl
   ·rw[hpc,hpo 1 (by omega),hpo 2 (by omega),hpo 3 (by omega)];simp only;omega
   ·rw[hpc,hpo 0 (by omega),hpo 2 (by omega),hpo 3 (by omega)];simp only;omega
   ·rw[hpc,hpo 0 (by omega),hpo 1 (by omega),hpo 3 (by omega)];simp only;omega
   ·rw[hpc,hpo 0 (by omega),hpo 1 (by omega),hpo 2 (by omega)];simp only;omega
  omega
 have hdc:∀p,p<64->(aA v (64*c+p)).1=0:=λp hp=>by rw[xQ hd hp]
 refine⟨B.tk,λn=> ?_⟩
 induction n with
 |zero=>
  intro _;have hz0:iP (iN v k c) k c 0=b:=by rw[hb];rfl
  rw[hz0];refine⟨⟨B.co,B.l8,by rw[hb],λp hp hz=>absurd ((B.no _ (by omega)).2 (hdc p hp)) hz,λj hj _=>B.no j hj,λj hj _=>B.bs j hj,λj hj _=>B.gs j hj,λp hp=>absurd hp (Nat.not_lt_zero _),λp hp=>absurd hp (Nat.not_lt_zero _),by have:=B.us;have:=B.nu;omega,λt ht hne=>B.tab t ht hne⟩,λm hm=>absurd hm (Nat.not_lt_zero _)⟩
 |succ n ih=>
  intro hn;obtain⟨F,hO⟩:=ih (by omega);obtain⟨u,hu⟩:∃u,u=iP (iN v k c) k c n:=⟨_,rfl⟩;rw[<-hu] at F;have hup:u.ps=b.ps:=by rw[F.ps,<-hb]
  have hvc:(u.ps c).live=true:=by rw[hup,hpc]
  have hvk:(u.ps k).live=true:=by rw[hup,hpo k hkc];exact hv
  have hin:Zt u:=λj hj p hp hz=>by
   rw[hup];by_cases e:j=c
   ·subst e;rw[hpc];exact h.rg k hk p hp (F.en p hp hz).2
   ·rw[hpo j e];exact h.rg j hj p hp (λhh=>hz ((F.no _ (by omega) (by omega)).2 hh))
  have hent:gF u k (n:Int)=aA u (64*k+n):=aCY hvk (by omega);have h0:(aA u (64*c+n)).1=0:=by
   by_cases e:(aA u (64*c+n)).1=0
   ·exact e
   ·have:=(F.en n (by omega) e).1;omega
  have hkn:=F.no (64*k+n) (by omega) (by omega);have hstep:∀hz:(aA u (64*k+n)).1≠0,_:=λhz=>aIo F.co F.l8 hk hc hvc (i:=n) (by omega) hz h0 (aEx hin (λj hj=>by rw[hup];exact hright j hj) (by unfold cK;rw[hup];exact hmap) hc (by omega) h0 (by rw[hup,hpc];exact h.rg k hk n (by omega) (λhh=>hz (hkn.2 hh))));have hok1:Yl u k c n:=⟨F.co.T.zb,F.co.T.get k hk hvk n (by omega),λhz=>by rw[hent] at hz⊢;exact(hstep hz).sh,λhz=>by rw[hent] at hz⊢;exact(hstep hz).st⟩;refine⟨?_,λm hm=> ?_⟩
  ·rw[Oe,<-hu]
   unfold Q4;rw[hent];by_cases e:(aA u (64*k+n)).1=0
   ·rw[if_pos e]
    have e0:(aA v (64*k+n)).1=0:=hkn.1 e;have z1:∀(X:Vm) j,(aA X j).1=0->(∀i,cb X j i=0)/\∀g,ct X j g=0:=λX j hz=>⟨λi=>by unfold cb;rw[hz,if_neg (by decide),if_neg (by decide)],λg=>by unfold ct;rw[hz,if_neg (by decide),if_neg (by decide)]⟩;refine⟨F.co,F.l8,F.ps,λp hp hz=>⟨by have:=(F.en p hp hz).1;omega,(F.en p hp hz).2⟩,F.no,F.bs,F.gs,λp hp jZ i hi=> ?_,λp hp jZ g hg=> ?_,F.us,F.tab⟩
    ·by_cases d:p=n
     ·subst d;rw[(z1 u _ h0).1,(z1 v _ e0).1]
     ·exact F.own p (by omega) jZ i hi
    ·by_cases d:p=n
     ·subst d;rw[(z1 u _ h0).2,(z1 v _ e0).2]
     ·exact F.Ck p (by omega) jZ g hg
   ·rw[if_neg e]
    have S:=hstep e;have hj:∀j,j<256->j/64≠c->j≠64*c+n:=λj _ hne=>by omega
    refine⟨S.co,S.l8,by rw[S.ps,F.ps],λp hp hz=> ?_,λj hj' hne=>by rw[S.no j hj' (hj j hj' hne)];exact F.no j hj' hne,λj hj' hne i hi=>by rw[S.bs j hj' (hj j hj' hne) i hi];exact F.bs j hj' hne i hi,λj hj' hne i hi=>by rw[S.gs j hj' (hj j hj' hne) i hi];exact F.gs j hj' hne i hi,λp hp jZ i hi=> ?_,λp hp jZ g hg=> ?_,by have:=S.us;have:=F.us;omega,λt ht hne=>by rw[S.tab t ht (by omega)];exact F.tab t ht hne⟩
    ·by_cases d:p=n
     ·subst d;exact⟨by omega,λhh=>e (hkn.2 hh)⟩
     ·have:=F.en p hp (λhh=>hz ((S.no _ (by omega) (by omega)).2 hh))
      exact⟨by omega,this.2⟩
    ·by_cases d:p=n
     ·subst d;rw[S.own i hi];exact F.bs _ (by omega) (by omega) i hi
     ·rw[S.bs _ (by omega) (by omega) i hi];exact F.own p (by omega) jZ i hi
    ·by_cases d:p=n
     ·subst d;rw[S.Ck g hg];exact F.gs _ (by omega) (by omega) g hg
     ·rw[S.gs _ (by omega) (by omega) g hg];exact F.Ck p (by omega) jZ g hg
  ·by_cases d:m=n
   ·subst d;rw[<-hu];exact hok1
   ·exact hO m (by omega)
end
end
section
section
variable {v:Vm} {W:Fw}
theorem gK.fork (h:gK v W) (hok:Mt W) {k:Nat} (hk:k<4) (hv:(v.ps k).live=true):(¬(cZ v=4\/64<cK v+tot (v.ps k).rg)->aF6 v k/\∃n,n<=64/\Frk v (lD v k).1 k (cZ v) n)/\gK (lD v k).1 (yP W (W k)).1/\(lD v k).2=(yP W (W k)).2:=by
 have hce:=aJA h;have hme:=h.mapped;have hre:=(h.eq k hk).2.1;by_cases c:cZ v=4\/64<cK v+tot (v.ps k).rg
 ·have e1:lD v k=(v,aB 4):=by unfold lD;rw[if_pos c]
  have e2:yP W (W k)=(W,aB 4):=by unfold yP;rw[<-hce,<-hme,<-hre,if_pos c]
  exact⟨λhh=>absurd c hh,by rw[e1,e2];exact h,by rw[e1,e2]⟩
 ·have e1:lD v k=(iP (iN v k (cZ v)) k (cZ v) 64,⟨0,(cZ v:Int),0,0⟩):=by unfold lD;rw[if_neg c]
  have e2:yP W (W k)=(eO W (cZ v) (W k),⟨0,(cZ v:Int),0,0⟩):=by unfold yP;rw[<-hce,<-hme,<-hre,if_neg c]
  obtain⟨hc,hd⟩:=Xr (v:=v) (λhh=>c (.inl hh));have hkc:k≠cZ v:=λhh=>by rw[<-hh,hv] at hd;cases hd
  obtain⟨t1,t2⟩:=aGO h hok hk hc hkc hv hd (by omega);obtain⟨F,hF⟩:=t2 64 (nR _);have B:=Zo h.co h.l8 (k:=k) hc hd;obtain⟨f,hf⟩:=B.ps;obtain⟨u,hu⟩:∃u,u=iP (iN v k (cZ v)) k (cZ v) 64:=⟨_,rfl⟩;rw[<-hu] at e1 F;have hps:=F.ps;rw[hf] at hps;have hpc:u.ps (cZ v)=⟨true,f,(v.ps k).rg,(v.ps k).ks⟩:=by rw[hps];unfold fJ;rw[if_pos rfl]
  have hpo:∀j,j≠cZ v->u.ps j=v.ps j:=λj hj=>by rw[hps];unfold fJ;rw[if_neg hj]
  refine⟨λ_=>⟨⟨t1,λn hn=>hF n hn⟩,64,nR _,by rw[e1];exact F⟩,?_,by rw[e1,e2]⟩;rw[e1,e2];show gK u (eO W (cZ v) (W k));refine⟨F.co,F.l8,λj hj p hp hz=> ?_,λj hj=> ?_,λj hj p hp i hi=> ?_,λj hj p hp i hi=> ?_⟩
  ·by_cases d:j=cZ v
   ·subst d;rw[hpc];exact h.rg k hk p hp (F.en p hp hz).2
   ·rw[hpo j d];exact h.rg j hj p hp (λhh=>hz ((F.no _ (by omega) (by omega)).2 hh))
  ·by_cases d:j=cZ v
   ·subst d
    obtain⟨a1,a2,a3⟩:=h.eq k hk;rw[hpc,dN,<-a1,<-a2,<-a3];exact⟨hv.symm,rfl,rfl⟩
   ·rw[hpo j d,gL _ _ d];exact h.eq j hj
  ·by_cases d:j=cZ v
   ·subst d;rw[dN,F.own p hp hp i hi];exact h.bt k hk p hp i hi
   ·rw[gL _ _ d,F.bs _ (by omega) (by omega) i hi];exact h.bt j hj p hp i hi
  ·by_cases d:j=cZ v
   ·subst d;rw[dN,F.Ck p hp hp i hi];exact h.tg k hk p hp i hi
   ·rw[gL _ _ d,F.gs _ (by omega) (by omega) i hi];exact h.tg j hj p hp i hi
theorem aGN (h:gK v W) (hok:OkW W) (o:aL):aJ9 v o/\gK (iQ v o).1 (mW W o).1/\(iQ v o).2=(mW W o).2:=by
 by_cases h1:o.kind<1\/14<o.kind
 ·have e1:iQ v o=(v,aB 5):=by unfold iQ;rw[if_pos h1]
  have e2:mW W o=(W,aB 5):=by unfold mW;rw[if_pos h1]
  exact⟨⟨λhh=>by omega,λ_ _ _=>⟨λa b=>by omega,λa=>by omega,λa=>by omega,λa b=>by omega,λa b=>by omega⟩⟩,by rw[e1,e2];exact h,by rw[e1,e2]⟩
 by_cases h2:o.kind=14
 ·have e1:iQ v o=(mZ v (min o.count 64).toNat,aB 0):=by unfold iQ;rw[if_neg h1,if_pos h2]
  have e2:mW W o=(W,aB 0):=by unfold mW;rw[if_neg h1,if_pos h2]
  obtain⟨r1,r2⟩:=We (W:=W) (min o.count 64).toNat v h;exact⟨⟨λ_=>r1,λ_ _ _=>⟨λa b=>by omega,λa=>by omega,λa=>by omega,λa b=>by omega,λa b=>by omega⟩⟩,by rw[e1,e2];exact r2,by rw[e1,e2]⟩
 by_cases h3:o.proc<0\/4<=o.proc\/(v.ps o.proc.toNat).live=false
 ·have h3':o.proc<0\/4<=o.proc\/(W o.proc.toNat).live=false:=by
   rcases h3 with a|a|a
   ·exact .inl a
   ·exact .inr (.inl a)
   ·by_cases b:o.proc<0\/4<=o.proc
    ·rcases b with b|b
     ·exact .inl b
     ·exact .inr (.inl b)
    ·exact .inr (.inr (by rw[<-(h.eq o.proc.toNat (by omega)).1];exact a))
  have e1:iQ v o=(v,aB 3):=by unfold iQ;rw[if_neg h1,if_neg h2,if_pos h3]
  have e2:mW W o=(W,aB 3):=by unfold mW;rw[if_neg h1,if_neg h2,if_pos h3']
  exact⟨⟨λhh=>absurd hh h2,λa b cc=>by rcases h3 with h3|h3|h3;omega;omega;rw[h3] at cc;cases cc⟩,by rw[e1,e2];exact h,by rw[e1,e2]⟩
 obtain⟨k,hk⟩:∃k,o.proc.toNat=k:=⟨_,rfl⟩;have hk4:k<4:=by omega
 have hv:(v.ps k).live=true:=by
  rw[<-hk];cases hl:(v.ps o.proc.toNat).live with
  |true=>rfl
  |false=>exact absurd (.inr (.inr hl)) h3
 obtain⟨q1,q2,q3⟩:=h.eq k hk4;have h3':¬(o.proc<0\/4<=o.proc\/(W o.proc.toNat).live=false):=by
  rintro(a|a|a)
  ·exact h3 (.inl a)
  ·exact h3 (.inr (.inl a))
  ·rw[hk,<-q1,hv] at a;cases a
 have Me:=hok.Me;have hD:iQ v o=if o.kind<=4 then tC v o else if o.kind<=7 then(let r:=lK (v.ps o.proc.toNat).rg (v.ps o.proc.toNat).ks o;if r.2.err=0 then(Eu v o.proc.toNat r.1,r.2) else(v,r.2)) else if o.kind=8 then lD v o.proc.toNat else if o.kind=9 then(jM v o.proc.toNat,aB 0) else o7 v o:=by
  unfold iQ;rw[if_neg h1,if_neg h2,if_neg h3];rfl
 have hF:mW W o=if o.kind<=4 then(let r:=if o.kind=1 then wW (W o.proc.toNat).rg (W o.proc.toNat).ks (jO W) o else iK (W o.proc.toNat).rg (W o.proc.toNat).ks o;if r.2.err=0 then(eO W o.proc.toNat (Fg { W o.proc.toNat with rg:=r.1 }),r.2) else(W,r.2)) else if o.kind<=7 then(let r:=lK (W o.proc.toNat).rg (W o.proc.toNat).ks o;if r.2.err=0 then(eO W o.proc.toNat { W o.proc.toNat with ks:=r.1 },r.2) else(W,r.2)) else if o.kind=8 then yP W (W o.proc.toNat) else if o.kind=9 then(eO W o.proc.toNat sV,aB 0) else(eO W o.proc.toNat (o8 (W o.proc.toNat) o).1,(o8 (W o.proc.toNat) o).2):=by
  unfold mW;rw[if_neg h1,if_neg h2,if_neg h3']
 rw[hk] at hD hF;by_cases k4:o.kind<=4
 ·obtain⟨r,hr⟩:∃r,r=vZ v o:=⟨_,rfl⟩
  have e1:iQ v o=if r.2.err=0 then(kL (Bn v k r.1) k r.1,r.2) else(v,r.2):=by rw[hD,if_pos k4,hr,<-hk];rfl
  have e2:mW W o=if r.2.err=0 then(eO W k (Fg { W k with rg:=r.1 }),r.2) else(W,r.2):=by rw[hF,if_pos k4,hr];unfold vZ;rw[hk,<-q2,<-q3,<-h.mapped]
  obtain⟨s1,s2⟩:=h.regs hk4 hv r.1;have hm:=Me.2;have hm0:0<=cK v:=by
   have a0:=rZ (h.right Me 0 (by omega));have a1:=rZ (h.right Me 1 (by omega));have a2:=rZ (h.right Me 2 (by omega));have a3:=rZ (h.right Me 3 (by omega));unfold cK;omega
  refine⟨⟨λhh=>absurd hh h2,λ_ _ _=>⟨λ_ _=>⟨h.right Me,hm0,by rw[h.mapped];omega,λ_ n hn _=>by rw[<-hr,hk];exact s1 n hn⟩,λa=>by omega,λa=>by omega,λa b=>by omega,λa b=>by omega⟩⟩,?_,?_⟩
  ·rw[e1,e2];split
   ·exact s2
   ·exact h
  ·rw[e1,e2];split<;>rfl
 by_cases k7:o.kind<=7
 ·obtain⟨r,hr⟩:∃r,r=lK (v.ps k).rg (v.ps k).ks o:=⟨_,rfl⟩
  have e1:iQ v o=if r.2.err=0 then(Eu v k r.1,r.2) else(v,r.2):=by rw[hD,if_neg k4,if_pos k7,hr]
  have e2:mW W o=if r.2.err=0 then(eO W k { W k with ks:=r.1 },r.2) else(W,r.2):=by rw[hF,if_neg k4,if_pos k7,hr,<-q2,<-q3]
  refine⟨⟨λhh=>absurd hh h2,λ_ _ _=>⟨λa b=>by omega,λa=>by omega,λa=>by omega,λa b=>by omega,λa b=>by omega⟩⟩,?_,?_⟩
  ·rw[e1,e2];split
   ·exact h.keys hk4 r.1
   ·exact h
  ·rw[e1,e2];split<;>rfl
 by_cases k8:o.kind=8
 ·have e1:iQ v o=lD v k:=by rw[hD,if_neg k4,if_neg k7,if_pos k8]
  have e2:mW W o=yP W (W k):=by rw[hF,if_neg k4,if_neg k7,if_pos k8]
  obtain⟨s1,s2,s3⟩:=h.fork Me hk4 hv;exact⟨⟨λhh=>absurd hh h2,λ_ _ _=>⟨λa b=>by omega,λ_=>⟨h.right Me,λhh=>by rw[hk] at hh⊢;exact(s1 hh).1⟩,λa=>by omega,λa b=>by omega,λa b=>by omega⟩⟩,by rw[e1,e2];exact s2,by rw[e1,e2];exact s3⟩
 by_cases k9:o.kind=9
 ·have e1:iQ v o=(jM v k,aB 0):=by rw[hD,if_neg k4,if_neg k7,if_neg k8,if_pos k9]
  have e2:mW W o=(eO W k sV,aB 0):=by rw[hF,if_neg k4,if_neg k7,if_neg k8,if_pos k9]
  obtain⟨s1,s2⟩:=h.exit hk4 hv;exact⟨⟨λhh=>absurd hh h2,λ_ _ _=>⟨λa b=>by omega,λa=>by omega,λ_=>by rw[hk];exact s1,λa b=>by omega,λa b=>by omega⟩⟩,by rw[e1,e2];exact s2,by rw[e1,e2]⟩
 ·have e1:iQ v o=o7 v o:=by rw[hD,if_neg k4,if_neg k7,if_neg k8,if_neg k9]
  have e2:mW W o=(eO W k (o8 (W k) o).1,(o8 (W k) o).2):=by rw[hF,if_neg k4,if_neg k7,if_neg k8,if_neg k9]
  have L:=look_ok h Me o hk4 hk hv (by omega);exact⟨⟨λhh=>absurd hh h2,λ_ _ _=>⟨λa b=>by omega,λa=>by omega,λa=>by omega,λ_ _=>L.ss,λ_ _=>L.ts⟩⟩,by rw[e1,e2];exact L.sim,by rw[e1,e2];exact L.eq⟩
end
end
theorem yS (i:Nat):aA cO i=(0,0):=rfl
theorem aBI (s:Nat):sl cO s=default:=by
 unfold sl cO;generalize 64=n;rw[List.getD_eq_getElem?_getD,List.getElem?_replicate];split<;>rfl
theorem aHp (n i:Nat):(List.replicate n (0:Int)).getD i 0=0:=by
 rw[List.getD_eq_getElem?_getD,List.getElem?_replicate];split<;>rfl
theorem aAV (n:Nat):Bytes (List.replicate n (0:Int)):=λi=>by rw[aHp];omega
theorem aAP (z:iD) (h:z≠(0,0)):dE (aA cO) z=0:=by
 unfold dE;rw[dM (g:=λ_=>0) λi _=>by rw[yS];exact aY (λe=>h e.symm)];exact fZ _
theorem aFH:full (aA cO)=0:=by
 unfold full;rw[dM (g:=λ_=>0) λi _=>by rw[yS];exact aY (λe=>e rfl)];exact fZ _
theorem aHK:dX cO ze ze []:=by
 have hl:∀j,(cO.ps j).live=false:=λ_=>rfl;refine⟨⟨List.length_replicate,aAV _,?_,?_,?_,?_,?_,?_⟩,⟨List.length_replicate,aAV _,List.length_replicate,?_,List.length_replicate,Int.le_refl _,by show(0:Int)<64;omega⟩,?_,λc hc=>by cases hc⟩
 ·intro k _ hv;rw[hl] at hv;cases hv
 ·intro k _ hv;rw[hl] at hv;cases hv
 ·intro k _ hv;rw[hl] at hv;cases hv
 ·intro k _ hv;rw[hl] at hv;cases hv
 ·intro k _ hv;rw[hl] at hv;cases hv
 ·intro k _ hv;rw[hl] at hv;cases hv
 ·intro s _ h0
  have:eB cO s=0:=by unfold eB;rw[aBI];rfl
  omega
 ·refine⟨λi _=>by rw[yS];rfl,λ_=>Int.le_refl _,λ_=>Int.le_refl _,λt _=>.inl rfl,λt _ t' _ _ h=>absurd rfl h,λt _ h=>absurd rfl h,λi _ h=>(by rw[yS] at h;cases h),λf _ _=> ?_,λs _=> ?_,λs _ h=>absurd h (by unfold ze;omega),λi _ j _ _ h=>absurd rfl h,?_,λf _ h=>(by cases h),λi _ h=>absurd rfl h⟩
  ·rw[aAP _ (by simp)];rfl
  ·rw[aAP _ (by simp)];unfold eB;rw[aBI];rfl
  ·rw[aFH];omega
theorem aBJ:(∃f,vE cO f)/\gK yX aB8:=by
 have B:=Zo aHK (show cO.tl.length<=8 by show 0<=8;omega) (k:=1) (c:=0) (by omega) rfl;obtain⟨u,hu⟩:∃u,u=iN cO 1 0:=⟨_,rfl⟩;have hbv:yX= { iN cO 1 0 with ps:=fJ (iN cO 1 0).ps 0 ⟨true,takeN cO,[],K8⟩ } :=by
  unfold yX iN;simp only[Vm.mk.injEq,true_and,and_true];funext j;unfold fJ;split<;>rfl
 rw[<-hu] at B hbv;obtain⟨f,hf⟩:=B.ps;obtain⟨g,hg⟩:=B.tk;have hroot:(u.ps 0).root=takeN cO:=by
  rw[hu];rfl
 have hpl:∀j,(fJ u.ps 0 ⟨true,takeN cO,[],K8⟩ j).live=(u.ps j).live/\(fJ u.ps 0 ⟨true,takeN cO,[],K8⟩ j).root=(u.ps j).root:=λj=>by
  unfold fJ;by_cases c:j=0
  ·subst c;rw[if_pos rfl];refine⟨?_,hroot.symm⟩;rw[hf];rfl
  ·rw[if_neg c];exact⟨rfl,rfl⟩
 obtain⟨c1,c2,c3⟩:=aHJ B.co hpl;rw[<-hbv] at c1 c2 c3;have hz:∀j,j<256->(aA yX j).1=0:=λj hj=>by rw[c2,B.no j hj,yS]
 have hps:∀j,j<4->yX.ps j=if j=0 then⟨true,takeN cO,[],K8⟩ else vX:=λj hj=>by
  rw[hbv];show fJ u.ps 0 _ j=_;unfold fJ;by_cases c:j=0
  ·rw[if_pos c,if_pos c]
  ·rw[if_neg c,if_neg c,hf];unfold fJ;rw[if_neg c];rfl
 have Xc:∀j,j<4->aB8 j=if j=0 then⟨true,[],K8,λ_ _=>0,λ_ _=>0⟩ else sV:=λj _=>rfl;refine⟨⟨g,hg⟩,c1,?_,λk hk p hp hh=>absurd (hz _ (by omega)) hh,λj hj=> ?_,λj hj p hp i hi=> ?_,λj hj p hp i hi=> ?_⟩
 ·rw[hbv];exact B.l8
 ·rw[hps j hj,Xc j hj]
  by_cases c:j=0
  ·rw[if_pos c,if_pos c];exact⟨rfl,rfl,rfl⟩
  ·rw[if_neg c,if_neg c];exact⟨rfl,rfl,rfl⟩
 ·have:cb yX (64*j+p) i=0:=by unfold cb;rw[hz _ (by omega),if_neg (by decide),if_neg (by decide)]
  rw[this,Xc j hj];split<;>rfl
 ·have:ct yX (64*j+p) i=0:=by unfold ct;rw[hz _ (by omega),if_neg (by decide),if_neg (by decide)]
  rw[this,Xc j hj];split<;>rfl
theorem oC (xs:List aL):gK (bS xs).1 (dI xs).1/\(bS xs).2=(dI xs).2:=by
 have key:∀n,n<=xs.length->gK (bS (xs.take n)).1 (dI (xs.take n)).1/\(bS (xs.take n)).2=(dI (xs.take n)).2:=by
  intro n
  induction n with
  |zero=>intro _;rw[List.take_zero];exact⟨aBJ.2,rfl⟩
  |succ n ih=>
   intro hn;obtain⟨i1,i2⟩:=ih (by omega);have e:xs.take (n+1)=xs.take n++ [xs[n]]:=(List.take_succ_eq_append_getElem (by omega));obtain⟨_,s1,s2⟩:=aGN i1 (aB4 (xs.take n)) xs[n];rw[e,Oj,p9];exact⟨s1,by rw[i2,s2]⟩
 have:=key xs.length (nR _);rwa[List.take_length] at this
theorem dX.sr0 {v:Vm} (h:dX v ze ze []) (s:Nat) (hs:s<64):0<=eB v s/\eB v s<=256:=by
 have:=h.A.sy s hs;rw[this];have a:0<=dE (aA v) (2,(s:Int)):=by
  unfold dE;have:=fV (f:=λ_=>0) (g:=λi=>ind (aA v i=(2,(s:Int)))) (n:=256) λi _=>(dS _).1;rw[fZ] at this;exact this
 have b:dE (aA v) (2,(s:Int))<=256:=by
  unfold dE;have:=fV (f:=λi=>ind (aA v i=(2,(s:Int)))) (g:=λ_=>1) (n:=256) λi _=>(dS _).2;rw[wP] at this;exact this
 unfold ze;omega
theorem Q8 (xs:List aL):aKt xs:=by
 obtain⟨s,_⟩:=oC xs;refine⟨aBJ.1,λk x hx=> ?_,λk hk=> ?_,λx hx=> ?_,s.co.F.dl⟩
 ·exact(aGN (oC (xs.take k)).1 (aB4 _) x).1
 ·have:=s.co.V9 Ik k hk
  omega
 ·obtain⟨n,hn,e⟩:=List.getElem_of_mem hx
  have hl:=s.co.F.dl;have:=s.co.sr0 n (by omega);have e2:sl (bS xs).1 n=x:=by unfold sl;rw[List.getD_eq_getElem?_getD,List.getElem?_eq_getElem hn,e];rfl
  unfold eB at this;rw[e2] at this;omega
end Go.Proofs.YtoogfmbojlpjaaaGreat
