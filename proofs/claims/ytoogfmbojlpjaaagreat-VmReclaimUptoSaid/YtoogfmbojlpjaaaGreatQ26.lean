/- Lemmas. -/
import Derived.Test.YtoogfmbojlpjaaaGreatQ12
import Derived.Test.YtoogfmbojlpjaaaGreatQ15
import Derived.Test.YtoogfmbojlpjaaaGreatQ16
import Derived.Test.YtoogfmbojlpjaaaGreatQ18
import Derived.Test.YtoogfmbojlpjaaaGreatQ22
import Derived.Test.YtoogfmbojlpjaaaGreatQ24
import Derived.Test.YtoogfmbojlpjaaaGreatQ25
import Derived.Test.YtoogfmbojlpjaaaGreatQA
set_option maxRecDepth 100000
set_option maxHeartbeats 32000000
set_option linter.unusedVariables false
set_option linter.unusedSimpArgs false
namespace Go.Proofs.YtoogfmbojlpjaaaGreat
structure Vp where
 live:Bool
 root:Int
 rg:List aC
 ks:aJ
def vX:Vp:=⟨false,0,[],Ar⟩
structure Vm where
 zs:List Int
 ts:List Int
 rf:Nat->Int
 dv:List gT
 tl:List iO
 ps:Nat->Vp
 us:List Bool
 fx:Nat->Bool
 hd:Int
def dV (r:Nat->Bool) (j:Nat) (x:Bool):Nat->Bool:=λi=>if i=j then x else r i
def fJ (w:Nat->Vp) (k:Nat) (p:Vp):Nat->Vp:=λi=>if i=k then p else w i
def tL (zs:List Int) (f:Int):List Int:=(List.range 64).map λi=>zs.getD ((f*64).toNat+i) 0
def jS (ts:List Int) (f:Int):List Int:=(List.range 4).map λ(k:Nat)=>dZ ts (f*4+(k:Int))
def wV:List Int->Nat->List Int->List Int
 |zs,_,[]=>zs
 |zs,a,x::b=>wV (zs.set a x) (a+1) b
def L9 (ts:List Int) (g tag:Int):List Int:=ts.set (g/2).toNat (yM (ts.getD (g/2).toNat 0) g tag)
def mV (ts:List Int) (f:Int) (t:List Int):Nat->List Int
 |0=>ts
 |k+1=>L9 (mV ts f t k) (f*4+(k:Int)) (t.getD k 0)
def iM (v:Vm) (f:Int) (b t:List Int):Vm:= { v with zs:=wV (lZ v.zs (f*64).toNat 64) (f*64).toNat b,ts:=mV v.ts f t 4 }
def yN (r:Nat->Int):Bool:=(List.range 64).all λn=>r n !=0
def frF (r:Nat->Int):Int:=(sD (gJ r)).2.1
def sW (v:Vm):Vm:= { v with rf:=aO v.rf (frF v.rf).toNat 1 }
def dR (v:Vm):List Bool:=(List.range 64).map λf=>decide (0<v.rf f)&& !v.fx f
def gF (v:Vm) (k:Nat) (page:Int):Int×Int:=(j6 v.zs (v.ps k).root page,j5 v.zs (v.ps k).root page)
def eT (v:Vm) (k:Nat) (page K N:Int):Vm:= { v with tl:=fF k page v.tl,zs:=jU v.zs (v.ps k).root page K N }
def oQ (f slot:Int) (v:Vm) (i:Nat):Vm:=
 if(v.ps (i/64)).live=true/\gF v (i/64) ((i%64:Nat):Int)=(1,f) then eT v (i/64) ((i%64:Nat):Int) 2 slot else v
def iJ (f slot:Int) (v:Vm) (n:Nat):Vm:=(List.range n).foldl (oQ f slot) v
theorem Av (f slot:Int) (v:Vm) (n:Nat):iJ f slot v (n+1)=oQ f slot (iJ f slot v n) n:=by
 unfold iJ;rw[List.range_succ,List.foldl_append];rfl
def Vs (v:Vm) (f:Nat):Vm:= { v with rf:=aO v.rf f 0,us:=v.us.set f false }
def wF (v:Vm):Int:=Bc v.hd (dR v) v.us
def evS (v:Vm):Int:=(qR v.dv (tL v.zs (wF v)) (jS v.ts (wF v)) (v.rf (wF v).toNat):Nat)
def kT (v:Vm):Vm:= { v with hd:=nS v.hd (dR v) v.us,us:=yH v.hd (dR v) v.us,dv:=tZ v.dv (tL v.zs (wF v)) (jS v.ts (wF v)) (v.rf (wF v).toNat) }
def bE (v:Vm):Vm:=if jL v.hd (dR v) v.us≠0 then v else Vs (iJ (wF v) (evS v) (kT v) 256) (wF v).toNat
def zL (v:Vm):Bool:=jL v.hd (dR v) v.us==0
def dJ (v:Vm):Vm:=if yN v.rf then sW (bE v) else sW v
def takeN (v:Vm):Int:=if yN v.rf then frF (bE v).rf else frF v.rf
def bO (v:Vm) (K N:Int):Vm:=
 if K=1 then { v with rf:=aO v.rf N.toNat (v.rf N.toNat -1),us:=if v.rf N.toNat -1=0 then v.us.set N.toNat false else v.us }
 else if K=2 then { v with dv:=v.dv.set N.toNat (bump (v.dv.getD N.toNat default) (-1)) }
 else v
def kE (v:Vm) (K N:Int):Vm:=
 if K=1 then { v with rf:=aO v.rf N.toNat (v.rf N.toNat+1) }
 else if K=2 then { v with dv:=v.dv.set N.toNat (bump (v.dv.getD N.toNat default) 1) }
 else v
def aQ (v:Vm):Vm:= { dJ v with fx:=dV (dJ v).fx (takeN v).toNat true,zs:=tX (dJ v).zs (takeN v) }
def gN (v:Vm) (K N:Int) (b:Bool):Vm:=if K=1 then { v with fx:=dV v.fx N.toNat b } else v
def bG (v:Vm) (k:Nat) (page:Int):Vm:=
 if aG v.zs (v.ps k).root page=3 then { aQ v with zs:=mU (aQ v).zs (v.ps k).root page (takeN v) } else v
def gI (v:Vm) (k:Nat) (page K N:Int):Vm:=gN (eT (bG (gN v K N true) k page) k page K N) K N false
def iF (t:List iO) (k:Nat) (page:Int):Option (Int×Int):=(t.find? λc=>c.p==(k:Int)&&c.g==page).map λc=>(c.k,c.n)
def Cm (v:Vm) (k:Nat) (page:Int):Int×Int:=(iF v.tl k page).getD (gF v k page)
def Bz (v:Vm) (k:Nat) (page:Int) (x:Int×Int):Vm:=
 gI (bO (if x.1=2 then iM (dJ v) (takeN v) ((dJ v).dv.getD x.2.toNat default).b ((dJ v).dv.getD x.2.toNat default).t else iM (dJ v) (takeN v) [] []) x.1 x.2) k page 1 (takeN v)
def lL (v:Vm) (k:Nat) (page:Int):Vm×Int:=if(Cm v k page).1=1 then(v,(Cm v k page).2) else(Bz v k page (Cm v k page),takeN v)
def sQ (v:Vm) (n:Int):Vm:= { v with fx:=dV v.fx n.toNat true }
def mH (v:Vm) (n:Int):Vm:= { dJ (sQ v n) with fx:=dV (dJ (sQ v n)).fx n.toNat false }
def copyV (v:Vm) (k:Nat) (page n:Int):Vm:=
 gI (bO (iM (mH v n) (takeN (sQ v n)) (tL (mH v n).zs n) (jS (mH v n).ts n)) 1 n) k page 1 (takeN (sQ v n))
def sO (v:Vm) (k:Nat) (page n:Int) (w:Bool):Vm×Int:=if w=true/\1<v.rf n.toNat then(copyV v k page n,takeN (sQ v n)) else(v,n)
def Wm (v:Vm) (k:Nat) (page n:Int):Vm:= { v with us:=v.us.set n.toNat true,tl:=Fb (fF k page v.tl++ [⟨k,page,1,n⟩]) }
def yL (v:Vm) (k:Nat) (page:Int) (w:Bool):Int:=(sO (lL v k page).1 k page (lL v k page).2 w).2
def jW (v:Vm) (k:Nat) (page:Int) (w:Bool):Vm:=Wm (sO (lL v k page).1 k page (lL v k page).2 w).1 k page (yL v k page w)
def J9 (k:Nat) (keep:List aC) (v:Vm) (i:Nat):Vm:=
 if(dF keep (i:Int)).isSome=true\/(gF v k (i:Int)).1=0 then v else bO (eT v k (i:Int) 0 0) (gF v k (i:Int)).1 (gF v k (i:Int)).2
def iA (v:Vm) (k:Nat) (keep:List aC) (n:Nat):Vm:=(List.range n).foldl (J9 k keep) v
theorem Il (v:Vm) (k:Nat) (keep:List aC) (n:Nat):iA v k keep (n+1)=J9 k keep (iA v k keep n) n:=by
 unfold iA;rw[List.range_succ,List.foldl_append];rfl
def kL (v:Vm) (k:Nat) (keep:List aC):Vm:=iA v k keep 64
def lC (v:Vm) (f:Int):Vm:=bO { v with fx:=dV v.fx f.toNat false } 1 f
def Dp (root:Int) (v:Vm) (i:Nat):Vm:=if aG v.zs root ((8*i:Nat):Int)=0 then lC v (aK v.zs root ((8*i:Nat):Int)) else v
def bT (v:Vm) (root:Int) (n:Nat):Vm:=(List.range n).foldl (Dp root) v
theorem Et (v:Vm) (root:Int) (n:Nat):bT v root (n+1)=Dp root (bT v root n) n:=by
 unfold bT;rw[List.range_succ,List.foldl_append];rfl
def G7 (v:Vm) (k:Nat):Vm:=lC (bT (kL v k []) (v.ps k).root 8) (v.ps k).root
def jM (v:Vm) (k:Nat):Vm:= { G7 v k with tl:=Fa k (G7 v k).tl,ps:=fJ (G7 v k).ps k vX }
def cK (v:Vm):Int:=tot (v.ps 0).rg+tot (v.ps 1).rg+tot (v.ps 2).rg+tot (v.ps 3).rg
def cZ (v:Vm):Nat:=if(v.ps 0).live=false then 0 else if(v.ps 1).live=false then 1 else if(v.ps 2).live=false then 2 else if(v.ps 3).live=false then 3 else 4
def Q4 (k c:Nat) (v:Vm) (i:Nat):Vm:=
 if(gF v k (i:Int)).1=0 then v else gI (kE v (gF v k (i:Int)).1 (gF v k (i:Int)).2) c (i:Int) (gF v k (i:Int)).1 (gF v k (i:Int)).2
def iP (v:Vm) (k c n:Nat):Vm:=(List.range n).foldl (Q4 k c) v
theorem Oe (v:Vm) (k c n:Nat):iP v k c (n+1)=Q4 k c (iP v k c n) n:=by
 unfold iP;rw[List.range_succ,List.foldl_append];rfl
def iN (v:Vm) (k c:Nat):Vm:= { aQ v with ps:=fJ (aQ v).ps c ⟨true,takeN v,(v.ps k).rg,(v.ps k).ks⟩ }
def lD (v:Vm) (k:Nat):Vm×bX:=
 if cZ v=4\/64<cK v+tot (v.ps k).rg then(v,aB 4) else(iP (iN v k (cZ v)) k (cZ v) 64,⟨0,(cZ v:Int),0,0⟩)
def D8 (v:Vm) (k:Nat) (t:mP):List Int:=((jS (jW v k t.p false).ts (yL v k t.p false)).drop (t.f/16).toNat).take ((t.t -1)/16+1 -t.f/16).toNat
def gH (v:Vm) (o:aL) (t:mP):Vm×Int×Int:=
 let p:=v.ps o.proc.toNat
 if kJ p.rg p.ks t.p (iU o.kind)≠0 then(v,kJ p.rg p.ks t.p (iU o.kind),t.p*64+t.f)
 else if o.kind=13 then(if((dF p.rg t.p).getD zA).g=false then(v,4,t.p*64+t.f) else(v,0,0))
 else if((dF p.rg t.p).getD zA).g=false\/o.kind=12 then(v,0,0)
 else if oP ((dF p.rg t.p).getD zA).g (iU o.kind) (D8 v o.proc.toNat t) o.tag=0 then(jW v o.proc.toNat t.p false,0,0)
 else(jW v o.proc.toNat t.p false,oP ((dF p.rg t.p).getD zA).g (iU o.kind) (D8 v o.proc.toNat t) o.tag,max (t.p*64+t.f) (t.p*64+(t.f/16+sF ((dF p.rg t.p).getD zA).g (iU o.kind) (D8 v o.proc.toNat t) o.tag)*16))
def dB (v:Vm) (o:aL):List mP->Vm×Int×Int
 | []=>(v,0,0)
 |t::l=>if(gH v o t).2.1≠0 then gH v o t else dB (gH v o t).1 o l
def mD (ts:List Int) (f tag:Int) (a:Nat):Nat->List Int
 |0=>ts
 |k+1=>L9 (mD ts f tag a k) (f*4+((a+k:Nat):Int)) tag
def storeT (zs:List Int) (f a:Int) (value:Int) (n:Nat):Nat->List Int
 |0=>zs
 |k+1=>(storeT zs f a value n k).set ((f*64+a).toNat+k) (value/256^(n+k)%256)
def loadT (zs:List Int) (f a:Int) (n:Nat):Nat->Int
 |0=>0
 |k+1=>loadT zs f a n k+zs.getD ((f*64+a).toNat+k) 0*256^(n+k)
def nC (v:Vm) (o:aL) (t:mP) (n:Nat):Vm×Int:=
 let w:=jW v o.proc.toNat t.p (iU o.kind==2);let f:=yL v o.proc.toNat t.p (iU o.kind==2)
 if o.kind=13 then({ w with ts:=mD w.ts f o.tag (t.f/16).toNat (t.t/16 -t.f/16).toNat },0)
 else if o.kind=11 then({ w with zs:=storeT w.zs f t.f o.value n (t.t -t.f).toNat },0)
 else(w,loadT w.zs f t.f n (t.t -t.f).toNat)
def dG (v:Vm) (o:aL) (n:Nat):List mP->Vm×Int
 | []=>(v,0)
 |t::l=>((dG (nC v o t n).1 o (n+(t.t -t.f).toNat) l).1,(nC v o t n).2+(dG (nC v o t n).1 o (n+(t.t -t.f).toNat) l).2)
def o7 (v:Vm) (o:aL):Vm×bX:=
 if gM o=false then(v,aB 2)
 else if(dB v o (dD o.addr (aU o))).2.1≠0 then((dB v o (dD o.addr (aU o))).1,Ca (dB v o (dD o.addr (aU o))).2.1 (dB v o (dD o.addr (aU o))).2.2)
 else((dG (dB v o (dD o.addr (aU o))).1 o 0 (dD o.addr (aU o))).1,⟨0,(dG (dB v o (dD o.addr (aU o))).1 o 0 (dD o.addr (aU o))).2,0,0⟩)
def tC (v:Vm) (o:aL):Vm×bX:=
 let p:=v.ps o.proc.toNat;let r:=if o.kind=1 then wW p.rg p.ks (cK v) o else iK p.rg p.ks o
 if r.2.err=0 then(kL { v with ps:=fJ v.ps o.proc.toNat { p with rg:=r.1 } } o.proc.toNat r.1,r.2) else(v,r.2)
def mZ (v:Vm):Nat->Vm
 |0=>v
 |n+1=>if zL v then mZ (bE v) n else v
def iQ (v:Vm) (o:aL):Vm×bX:=
 if o.kind<1\/14<o.kind then(v,aB 5)
 else if o.kind=14 then(mZ v (min o.count 64).toNat,aB 0)
 else if o.proc<0\/4<=o.proc\/(v.ps o.proc.toNat).live=false then(v,aB 3)
 else if o.kind<=4 then tC v o
 else if o.kind<=7 then
  (let r:=lK (v.ps o.proc.toNat).rg (v.ps o.proc.toNat).ks o
   if r.2.err=0 then({ v with ps:=fJ v.ps o.proc.toNat { v.ps o.proc.toNat with ks:=r.1 } },r.2) else(v,r.2))
 else if o.kind=8 then lD v o.proc.toNat
 else if o.kind=9 then(jM v o.proc.toNat,aB 0)
 else o7 v o
def cO:Vm:=⟨List.replicate 4096 0,List.replicate 128 0,λ_=>0,List.replicate 64 default,[],λ_=>vX,List.replicate 64 false,λ_=>false,0⟩
def yX:Vm:= { aQ cO with ps:=fJ (aQ cO).ps 0 ⟨true,takeN cO,[],K8⟩ }
def bS (l:List aL):Vm×List bX:=l.foldl (λs o=>((iQ s.1 o).1,s.2++ [(iQ s.1 o).2])) (yX,[])
theorem Oj (l:List aL) (o:aL):bS (l++ [o])=((iQ (bS l).1 o).1,(bS l).2++ [(iQ (bS l).1 o).2]):=by
 unfold bS;simp[List.foldl_append]
def jJ (v:Vm):Int:=((List.range 64).map λn=>min (v.rf n) 1).sum
def kU (v:Vm):Int:=(v.dv.map λs=>min s.r 1).sum
def aM (f:Nat->Int):Nat->Int
 |0=>0
 |n+1=>aM f n+f n
def ind (p:Prop) [Decidable p]:Int:=if p then 1 else 0
theorem bP {p:Prop} [Decidable p] (h:p):ind p=1:=if_pos h
theorem aY {p:Prop} [Decidable p] (h:¬p):ind p=0:=if_neg h
theorem dS (p:Prop) [Decidable p]:0<=ind p/\ind p<=1:=by unfold ind;split<;>omega
theorem dM {f g:Nat->Int} :∀ {n:Nat},(∀i,i<n->f i=g i)->aM f n=aM g n
 |0,_=>rfl
 |n+1,h=>by unfold aM;rw[dM (n:=n) (λi hi=>h i (by omega)),h n (by omega)]
theorem fV {f g:Nat->Int} :∀ {n:Nat},(∀i,i<n->f i<=g i)->aM f n<=aM g n
 |0,_=>Int.le_refl _
 |n+1,h=>by unfold aM;have:=fV (n:=n) (λi hi=>h i (by omega));have:=h n (by omega);omega
theorem zU (f g:Nat->Int):∀n,aM (λi=>f i+g i) n=aM f n+aM g n
 |0=>rfl
 |n+1=>by unfold aM;rw[zU f g n];omega
theorem fZ:∀n,aM (λ_=>0) n=0
 |0=>rfl
 |n+1=>by unfold aM;rw[fZ n];rfl
theorem wP:∀n,aM (λ_=>1) n=n
 |0=>rfl
 |n+1=>by unfold aM;rw[wP n];omega
theorem wQ {f:Nat->Int} {n:Nat} (h:∀i,i<n->0<=f i):0<=aM f n:=by
 have:=fV (f:=λ_=>0) (g:=f) h;rw[fZ] at this;exact this
theorem lW {f g:Nat->Int} {j:Nat} :∀ {n:Nat},j<n->(∀i,i<n->i≠j->f i=g i)->aM f n -f j=aM g n -g j
 |0,h,_=>absurd h (Nat.not_lt_zero _)
 |n+1,hj,h=>by
  unfold aM;by_cases e:j=n
  ·subst e
   rw[dM (n:=j) (λi hi=>h i (by omega) (by omega))];omega
  ·have:=lW (n:=n) (by omega) (λi hi he=>h i (by omega) he)
   have:=h n (by omega) (by omega);omega
theorem nX {f:Nat->Int} {j n:Nat} (hj:j<n) (h:∀i,i<n->i≠j->f i=0):aM f n=f j:=by
 have:=lW (f:=f) (g:=λ_=>0) hj h;rw[fZ] at this;omega
theorem Dz {f:Nat->Int} {j n:Nat} (hj:j<n) (h:∀i,i<n->0<=f i):f j<=aM f n:=by
 have h1:=lW (f:=f) (g:=λi=>if i=j then 0 else f i) hj (λi _ he=>by simp[he]);have h2:=wQ (f:=λi=>if i=j then 0 else f i) (n:=n) (λi hi=>by split;exact Int.le_refl _;exact h i hi);simp at h1;omega
theorem aIk {f:Nat->Int} {j k n:Nat} (hj:j<n) (hk:k<n) (hne:j≠k) (h:∀i,i<n->0<=f i):f j+f k<=aM f n:=by
 have h1:=lW (f:=f) (g:=λi=>if i=j then 0 else f i) hj (λi _ he=>by simp[he]);have h2:=Dz (f:=λi=>if i=j then 0 else f i) (n:=n) hk (λi hi=>by split;exact Int.le_refl _;exact h i hi);simp[Ne.symm hne] at h1 h2;omega
theorem rO (f:Nat->Nat->Int) (m:Nat):∀n,aM (λi=>aM (λj=>f i j) m) n=aM (λj=>aM (λi=>f i j) n) m
 |0=>by
  show(0:Int)=aM (λj=>0) m;rw[fZ]
 |n+1=>by
  show aM (λi=>aM (λj=>f i j) m) n+aM (λj=>f n j) m=aM (λj=>aM (λi=>f i j) n+f n j) m;rw[rO f m n,zU]
theorem aIj {f:Nat->Int} {n:Nat} (h:0<aM f n):∃i,i<n/\0<f i:=by
 induction n with
 |zero=>exact absurd h (by unfold aM;omega)
 |succ n ih=>
  by_cases e:0<f n
  ·exact⟨n,by omega,e⟩
  ·obtain⟨i,h1,h2⟩:=ih (by unfold aM at h;omega)
   exact⟨i,by omega,h2⟩
theorem sG (f:Nat->Int) (a:Nat):∀b,aM f (a+b)=aM f a+aM (λi=>f (a+i)) b
 |0=>by show aM f a=aM f a+0;omega
 |b+1=>by
  show aM f (a+b)+f (a+b)=_;rw[sG f a b];show _=aM f a+(aM (λi=>f (a+i)) b+f (a+b));omega
theorem yB (f:Nat->Int):∀n,((List.range n).map f).sum=aM f n
 |0=>rfl
 |n+1=>by
  rw[List.range_succ,List.map_append,List.sum_append,yB f n];simp[aM]
theorem Oh (zs:List Int) (a k:Nat) (x:Int) (hk:k<zs.length):(zs.set a x).getD k 0=if a=k then x else zs.getD k 0:=by
 by_cases e:a=k
 ·subst e;simp[List.getD,hk]
 ·simp[List.getD,e]
theorem Uq (zs:List Int) (k:Nat) (hk:zs.length<=k):zs.getD k 0=0:=by simp[List.getD,List.getElem?_eq_none hk]
theorem Q7 (zs:List Int) (a k:Nat) (x:Int) (h:a≠k):(zs.set a x).getD k 0=zs.getD k 0:=by simp[List.getD,h]
theorem rR (zs:List Int) (a:Nat) (v:Int):∀n,(dO zs a v n).length=zs.length
 |0=>rfl
 |n+1=>by unfold dO;rw[List.length_set,rR zs a v n]
theorem Oo (zs:List Int) (a k:Nat) (v:Int):∀n,¬(a<=k/\k<a+n)->(dO zs a v n).getD k 0=zs.getD k 0
 |0,_=>rfl
 |n+1,h=>by unfold dO;rw[Q7 _ _ _ _ (by omega),Oo zs a k v n (by omega)]
theorem Ui (zs:List Int) (a k:Nat) (v:Int) (hk:k<zs.length):∀n,(dO zs a v n).getD k 0=if a<=k/\k<a+n then v/((256^(k -a):Nat):Int)%256 else zs.getD k 0
 |0=>by unfold dO;rw[if_neg (by omega)]
 |n+1=>by
  unfold dO;rw[Oh _ _ _ _ (by rw[rR];exact hk),Ui zs a k v hk n];by_cases e:a+n=k
  ·rw[if_pos e,if_pos (by omega),<-e,show a+n -a=n by omega]
  ·rw[if_neg e]
   by_cases e2:a<=k/\k<a+n
   ·rw[if_pos e2,if_pos (by omega)]
   ·rw[if_neg e2,if_neg (by omega)]
theorem Sd {zs:List Int} (hb:Bytes zs) (a:Nat) (v:Int) (m:Nat):Bytes (dO zs a v m):=λi=>by
 rcases Nat.lt_or_ge i zs.length with h|h
 ·rw[Ui zs a i v h]
  split
  ·omega
  ·exact hb i
 ·rw[Uq _ _ (by rw[rR];exact h)];omega
theorem Ko {zs zs':List Int} :∀n a,(∀i,i<n->zs.getD (a+i) 0=zs'.getD (a+i) 0)->num zs a n=num zs' a n
 |0,_,_=>rfl
 |n+1,a,h=>by
  unfold num;have h1:=Ko (zs:=zs) (zs':=zs') n (a+1) (λi hi=>by have h2:=h (i+1) (Nat.succ_lt_succ hi);rwa[show a+(i+1)=a+1+i by omega] at h2);rw[h1];have:=h 0 (by omega);rw[Nat.add_zero] at this;rw[this]
theorem aIE {zs:List Int} {a:Nat} {v:Int} (h:a+4<=zs.length):num (dO zs a v 4) a 4=v%4294967296:=by
 have hp:∀i,i<4->(dO zs a v 4).getD (a+i) 0=v/((256^i:Nat):Int)%256:=λi hi=>by
  rw[Ui zs a (a+i) v (by omega) 4,if_pos (by omega),show a+i -a=i by omega]
 have h0:=hp 0 (by omega);have h1:=hp 1 (by omega);have h2:=hp 2 (by omega);have h3:=hp 3 (by omega);simp only[num];rw[Nat.add_zero] at h0;rw[h0,h1,show a+1+1=a+2 by omega,h2,show a+2+1=a+3 by omega,h3];simp;omega
theorem aG5 {zs:List Int} {a:Nat} (h:∀i,i<4->zs.getD (a+i) 0=0):num zs a 4=0:=by
 have h0:=h 0 (by omega);have h1:=h 1 (by omega);have h2:=h 2 (by omega);have h3:=h 3 (by omega);simp only[num];rw[Nat.add_zero] at h0;rw[h0,h1,show a+1+1=a+2 by omega,h2,show a+2+1=a+3 by omega,h3];simp
theorem aMu {zs:List Int} {p:Int} (h0:0<=p) (h1:p+4<=zs.length):wL zs p 4=num zs p.toNat 4:=by
 unfold wL;rw[if_neg (by omega)];rfl
theorem nH {k n:Int} (h:cB k n=0):0<=k/\k<=2/\0<=n/\n<64/\(k=0->n=0):=by
 unfold cB at h;split at h
 ·cases h
 ·split at h
  ·cases h
  ·omega
theorem Bp {k n:Int} (h0:0<=k) (h1:k<=2) (h2:0<=n) (h3:n<64) (h4:k=0->n=0):cB k n=0:=by
 unfold cB;rw[if_neg (by omega),if_neg (by omega)]
theorem aMb {k n:Int} (h:cB k n=0):Eh (dH k n)=0/\Ma (dH k n)=k/\Eg (dH k n)=n:=by
 have h2:=nH h;have h1:=Kj h;have e1:dH k n%256=k:=by omega
 have e2:dH k n/256=n:=by omega
 have:=aKe (v:=dH k n) (by rw[e1,e2];exact h);rw[e1,e2] at this;exact this
theorem atV {zs:List Int} (hl:zs.length=4096) {f k:Int} (f0:0<=f) (f1:f<64) (k0:0<=k) (k1:k<8):
 mO zs f k=Eh (num zs (64*f+4*k).toNat 4)/\pG zs f k=Ma (num zs (64*f+4*k).toNat 4)/\rH zs f k=Eg (num zs (64*f+4*k).toNat 4):=by
 obtain⟨_,a1,a2,a3⟩:=aHT (zs:=zs) (f:=f) (k:=k) (by unfold lJ;omega);rw[aMu (by omega) (by omega)] at a1 a2 a3;exact⟨a1,a2,a3⟩
def Jy (F:Int) (zs zs':List Int):Prop:=zs'.length=zs.length/\∀i:Nat,¬(64*F<=i/\(i:Int)<64*F+64)->zs'.getD i 0=zs.getD i 0
theorem Jy.at_ {F:Int} {zs zs':List Int} (h:Jy F zs zs') (hl:zs.length=4096) {f k:Int} (hne:f≠F) (f0:0<=f) (f1:f<64) (k0:0<=k) (k1:k<8):
 mO zs' f k=mO zs f k/\pG zs' f k=pG zs f k/\rH zs' f k=rH zs f k:=by
 obtain⟨a1,a2,a3⟩:=atV hl f0 f1 k0 k1;obtain⟨b1,b2,b3⟩:=atV (zs:=zs') (by rw[h.1];exact hl) f0 f1 k0 k1;have e:num zs' (64*f+4*k).toNat 4=num zs (64*f+4*k).toNat 4:=Ko 4 _ λi hi=>h.2 _ (by omega);rw[a1,a2,a3,b1,b2,b3,e];exact⟨rfl,rfl,rfl⟩
theorem Jy.byte {F:Int} {zs zs':List Int} (h:Jy F zs zs') {f:Int} (hne:f≠F) (f0:0<=f) {i:Nat} (hi:i<64):zs'.getD ((f*64).toNat+i) 0=zs.getD ((f*64).toNat+i) 0:=h.2 _ (by omega)
theorem aEE {zs:List Int} {f k x:Int} (f0:0<=f) (k0:0<=k) (k1:k<8):Jy f zs (dO zs (64*f+4*k).toNat x 4):=⟨rR _ _ _ _,λi hi=>Oo _ _ _ _ _ (by omega)⟩
theorem Dk:∀(n:Nat) (zs:List Int) (a:Nat),(lZ zs a n).length=zs.length
 |0,_,_=>rfl
 |n+1,zs,a=>by unfold lZ;rw[Dk n];simp
theorem xZ:∀(n:Nat) (zs:List Int) (a k:Nat),¬(a<=k/\k<a+n)->(lZ zs a n).getD k 0=zs.getD k 0
 |0,_,_,_,_=>rfl
 |n+1,zs,a,k,h=>by unfold lZ;rw[xZ n _ _ _ (by omega),Q7 _ _ _ _ (by omega)]
theorem Gd:∀(n:Nat) (zs:List Int) (a k:Nat),a<=k->k<a+n->(lZ zs a n).getD k 0=0
 |0,_,_,_,h,h2=>absurd h2 (by omega)
 |n+1,zs,a,k,h,h2=>by
  unfold lZ;by_cases e:a=k
  ·rw[xZ n _ _ _ (by omega),e]
   by_cases hl:k<zs.length
   ·rw[Oh _ _ _ _ hl,if_pos rfl]
   ·exact Uq _ _ (by rw[List.length_set];omega)
  ·exact Gd n _ _ _ (by omega) (by omega)
theorem Nj {zs:List Int} (hb:Bytes zs) (a n:Nat):Bytes (lZ zs a n):=λi=>by
 by_cases h:a<=i/\i<a+n
 ·rw[Gd n zs a i h.1 h.2];omega
 ·rw[xZ n zs a i h];exact hb i
theorem aC9 {zs:List Int} (hl:zs.length=4096) {f:Int} (f0:0<=f) (f1:f<64):tX zs f=lZ zs (64*f).toNat 64:=by
 unfold tX;rw[if_pos];unfold Lp;omega
theorem aEF {zs:List Int} (hl:zs.length=4096) {f:Int} (f0:0<=f) (f1:f<64):Jy f zs (tX zs f):=by
 rw[aC9 hl f0 f1];exact⟨Dk _ _ _,λi hi=>xZ _ _ _ _ (by omega)⟩
theorem un0:Eh 0=0/\Ma 0=0/\Eg 0=0:=by decide
theorem aNy {zs:List Int} (hl:zs.length=4096) {f k:Int} (f0:0<=f) (f1:f<64) (k0:0<=k) (k1:k<8):mO (tX zs f) f k=0/\pG (tX zs f) f k=0/\rH (tX zs f) f k=0:=by
 have hd:=aEF hl f0 f1;obtain⟨a1,a2,a3⟩:=atV (zs:=tX zs f) (by rw[hd.1];exact hl) f0 f1 k0 k1;have e:num (tX zs f) (64*f+4*k).toNat 4=0:=aG5 λi hi=>by
  rw[aC9 hl f0 f1];exact Gd _ _ _ _ (by omega) (by omega)
 rw[a1,a2,a3,e];exact un0
theorem aGY {zs:List Int} (hl:zs.length=4096) {f k K N:Int} (f0:0<=f) (f1:f<64) (k0:0<=k) (k1:k<8) (hp:cB K N=0):
 mO (dO zs (64*f+4*k).toNat (dH K N) 4) f k=0/\pG (dO zs (64*f+4*k).toNat (dH K N) 4) f k=K/\rH (dO zs (64*f+4*k).toNat (dH K N) 4) f k=N:=by
 obtain⟨a1,a2,a3⟩:=atV (zs:=dO zs (64*f+4*k).toNat (dH K N) 4) (by rw[rR];exact hl) f0 f1 k0 k1;have h2:=nH hp;have h1:=Kj hp;rw[aIE (by omega),show dH K N%4294967296=dH K N by omega] at a1 a2 a3;rw[a1,a2,a3];exact aMb hp
theorem aAl {zs:List Int} (hl:zs.length=4096) {f k j x:Int} (f0:0<=f) (f1:f<64) (k0:0<=k) (k1:k<8) (j0:0<=j) (j1:j<8) (hne:j≠k):
 mO (dO zs (64*f+4*k).toNat x 4) f j=mO zs f j/\pG (dO zs (64*f+4*k).toNat x 4) f j=pG zs f j/\rH (dO zs (64*f+4*k).toNat x 4) f j=rH zs f j:=by
 obtain⟨a1,a2,a3⟩:=atV (zs:=dO zs (64*f+4*k).toNat x 4) (by rw[rR];exact hl) f0 f1 j0 j1;obtain⟨b1,b2,b3⟩:=atV hl f0 f1 j0 j1;rw[Ko (zs':=zs) 4 _ λi hi=>Oo _ _ _ _ _ (by omega)] at a1 a2 a3;rw[a1,a2,a3,b1,b2,b3];exact⟨rfl,rfl,rfl⟩
theorem Oz {zs zs':List Int} {root page:Int} (h:0<=page->page<64->mO zs' root (page/8)=mO zs root (page/8)/\pG zs' root (page/8)=pG zs root (page/8)/\rH zs' root (page/8)=rH zs root (page/8)):
 aG zs' root page=aG zs root page/\aK zs' root page=aK zs root page:=by
 have e:aG zs' root page=aG zs root page:=by
  unfold aG;by_cases hp:page<0\/64<=page
  ·rw[if_pos hp,if_pos hp]
  ·obtain⟨e1,e2,_⟩:=h (by omega) (by omega)
   rw[if_neg hp,if_neg hp,e1,e2]
 refine⟨e,?_⟩;unfold aK;rw[e];split
 ·rename_i h0
  have:=Wt h0;exact(h this.1 this.2).2.2
 ·rfl
theorem U0 {zs zs':List Int} {root page:Int} (h1:aG zs' root page=aG zs root page/\aK zs' root page=aK zs root page) (h:aG zs root page=0->mO zs' (aK zs root page) (page%8)=mO zs (aK zs root page) (page%8)/\pG zs' (aK zs root page) (page%8)=pG zs (aK zs root page) (page%8)/\rH zs' (aK zs root page) (page%8)=rH zs (aK zs root page) (page%8)):
 lI zs' root page=lI zs root page/\j6 zs' root page=j6 zs root page/\j5 zs' root page=j5 zs root page:=by
 unfold lI j6 j5;rw[h1.1,h1.2];by_cases e:aG zs root page=0
 ·obtain⟨a,b,c⟩:=h e
  rw[a,b,c];exact⟨rfl,rfl,rfl⟩
 ·rw[if_neg e,if_neg e,if_neg e,if_neg e,if_pos e,if_pos e]
  exact⟨rfl,rfl,rfl⟩
theorem get_none {zs:List Int} {root page:Int} (h:aG zs root page=3):lI zs root page=0/\j6 zs root page=0/\j5 zs root page=0:=by
 unfold lI j6 j5;rw[if_pos h,if_neg (by omega),if_neg (by omega)];exact⟨rfl,rfl,rfl⟩
theorem aCi {zs:List Int} {root p q:Int} (hp:0<=p/\p<64) (hq:0<=q/\q<64) (h:p/8=q/8):aG zs root p=aG zs root q/\aK zs root p=aK zs root q:=by
 have e:aG zs root p=aG zs root q:=by
  unfold aG;rw[if_neg (show¬(p<0\/64<=p) by omega),if_neg (show¬(q<0\/64<=q) by omega),h]
 refine⟨e,?_⟩;unfold aK;rw[e,h]
theorem aAm:∀(b:List Int) (zs:List Int) (a:Nat),(wV zs a b).length=zs.length
 | [],_,_=>rfl
 |x::b,zs,a=>by unfold wV;rw[aAm b];simp
theorem Uj:∀(b:List Int) (zs:List Int) (a k:Nat),¬(a<=k/\k<a+b.length)->(wV zs a b).getD k 0=zs.getD k 0
 | [],_,_,_,_=>rfl
 |x::b,zs,a,k,h=>by
  simp only[List.length_cons] at h;unfold wV;rw[Uj b _ _ _ (by omega),Q7 _ _ _ _ (by omega)]
theorem aEa:∀(b:List Int) (zs:List Int) (a k:Nat),a<=k->k<a+b.length->a+b.length<=zs.length->(wV zs a b).getD k 0=b.getD (k -a) 0
 | [],_,_,_,h,h2,_=>absurd h2 (by simp at*;omega)
 |x::b,zs,a,k,h,h2,h3=>by
  simp only[List.length_cons] at h2 h3;unfold wV;by_cases e:a=k
  ·rw[Uj b _ _ _ (by omega),Oh _ _ _ _ (by omega),if_pos e,e,Nat.sub_self];rfl
  ·rw[aEa b _ _ _ (by omega) (by omega) (by simp;omega)]
   obtain⟨d,hd⟩:∃d,k -a=d+1:=⟨k -a -1,by omega⟩;rw[hd,show k - (a+1)=d by omega];rfl
theorem Wh:∀(b:List Int) (zs:List Int) (a:Nat),Bytes zs->Bytes b->Bytes (wV zs a b)
 | [],_,_,h,_=>h
 |x::b,zs,a,h,hb=>by
  unfold wV;refine Wh b _ _ (λi=> ?_) (λi=>by have:=hb (i+1);simpa using this);by_cases hi:i<zs.length
  ·rw[Oh _ _ _ _ hi]
   split
   ·have:=hb 0;simpa using this
   ·exact h i
  ·rw[Uq _ _ (by rw[List.length_set];omega)];omega
theorem aJu {zs:List Int} (hl:zs.length=4096) {f:Int} (f0:0<=f) (f1:f<64) (b:List Int) (hb:b.length<=64):Jy f zs (wV (lZ zs (f*64).toNat 64) (f*64).toNat b):=
 ⟨by rw[aAm,Dk],λi hi=>by rw[Uj _ _ _ _ (by omega),xZ _ _ _ _ (by omega)]⟩
theorem aHx {zs:List Int} (hl:zs.length=4096) {f:Int} (f0:0<=f) (f1:f<64) (b:List Int) (hb:b=[]\/b.length=64) {i:Nat} (hi:i<64):(wV (lZ zs (f*64).toNat 64) (f*64).toNat b).getD ((f*64).toNat+i) 0=b.getD i 0:=by
 rcases hb with rfl|hb
 ·show(lZ zs (f*64).toNat 64).getD _ 0=_
  rw[Gd _ _ _ _ (by omega) (by omega)];simp
 ·rw[aEa _ _ _ _ (by omega) (by omega) (by rw[Dk];omega),show(f*64).toNat+i - (f*64).toNat=i by omega]
theorem yC (zs:List Int) (f a value:Int) (n:Nat):∀k,(storeT zs f a value n k).length=zs.length
 |0=>rfl
 |k+1=>by unfold storeT;rw[List.length_set,yC zs f a value n k]
theorem J8 (zs:List Int) (f a value:Int) (n j:Nat):∀k,¬((f*64+a).toNat<=j/\j<(f*64+a).toNat+k)->(storeT zs f a value n k).getD j 0=zs.getD j 0
 |0,_=>rfl
 |k+1,h=>by unfold storeT;rw[Q7 _ _ _ _ (by omega),J8 zs f a value n j k (by omega)]
theorem aAe (zs:List Int) (f a value:Int) (n j:Nat):∀k,(f*64+a).toNat<=j->j<(f*64+a).toNat+k->(f*64+a).toNat+k<=zs.length->(storeT zs f a value n k).getD j 0=value/256^(n+(j - (f*64+a).toNat))%256
 |0,h,h2,_=>absurd h2 (by omega)
 |k+1,h,h2,h3=>by
  unfold storeT;rw[Oh _ _ _ _ (by rw[yC];omega)];by_cases e:(f*64+a).toNat+k=j
  ·rw[if_pos e,show j - (f*64+a).toNat=k by omega]
  ·rw[if_neg e,aAe zs f a value n j k h (by omega) (by omega)]
theorem Nz {zs:List Int} (hb:Bytes zs) (f a value:Int) (n:Nat):∀k,Bytes (storeT zs f a value n k)
 |0=>hb
 |k+1=>λi=>by
  unfold storeT;by_cases hi:i<zs.length
  ·rw[Oh _ _ _ _ (by rw[yC];exact hi)]
   split
   ·omega
   ·exact Nz hb f a value n k i
  ·rw[Uq _ _ (by rw[List.length_set,yC];omega)];omega
theorem aHE {zs:List Int} {f a:Int} (value:Int) (n k:Nat) (f0:0<=f) (a0:0<=a) (a1:a+k<=64):Jy f zs (storeT zs f a value n k):=⟨yC _ _ _ _ _ _,λi hi=>J8 _ _ _ _ _ _ _ (by omega)⟩
theorem aJa {b g tag:Int} (h0:0<=b) (h1:b<256) (t0:0<=tag) (t1:tag<16):0<=yM b g tag/\yM b g tag<256:=by
 unfold yM;split<;>omega
theorem Tu (ts:List Int) (g tag:Int):(L9 ts g tag).length=ts.length:=by unfold L9;simp
theorem Vq {ts:List Int} (hb:Bytes ts) {g tag:Int} (t0:0<=tag) (t1:tag<16):Bytes (L9 ts g tag):=λi=>by
 unfold L9;by_cases hi:i<ts.length
 ·rw[Oh _ _ _ _ hi]
  split
  ·exact aJa (hb _).1 (hb _).2 t0 t1
  ·exact hb i
 ·rw[Uq _ _ (by rw[List.length_set];omega)];omega
theorem aD1 {ts:List Int} (hl:ts.length=128) {g:Int} (g0:0<=g) (g1:g<256):dZ ts g=if g%2=0 then ts.getD (g/2).toNat 0%16 else ts.getD (g/2).toNat 0/16:=by
 unfold dZ;rw[if_neg (by omega)]
theorem aDS {ts:List Int} (hl:ts.length=128) (hb:Bytes ts) {g h tag:Int} (g0:0<=g) (g1:g<256) (h0:0<=h) (h1:h<256) (t0:0<=tag) (t1:tag<16):dZ (L9 ts g tag) h=if h=g then tag else dZ ts h:=by
 rw[aD1 (by rw[Tu];exact hl) h0 h1,aD1 hl h0 h1];have hx:=hb (g/2).toNat;unfold L9;rw[Oh _ _ _ _ (by omega)];by_cases e':g/2=h/2
 ·have e:(g/2).toNat=(h/2).toNat:=by rw[e']
  rw[if_pos e,<-e];unfold yM;by_cases e2:h=g
  ·subst e2
   rw[if_pos rfl];by_cases e3:h%2=0
   ·rw[if_pos e3,if_pos e3];omega
   ·rw[if_neg e3,if_neg e3];omega
  ·rw[if_neg e2]
   by_cases e3:h%2=0
   ·rw[if_pos e3,if_neg (by omega),if_pos e3];omega
   ·rw[if_neg e3,if_pos (by omega),if_neg e3];omega
 ·have e:¬(g/2).toNat=(h/2).toNat:=by omega
  have e2:¬h=g:=λe2=>e' (by rw[e2]);rw[if_neg e,if_neg e2]
theorem aIb {ts:List Int} (hb:Bytes ts) (g:Int):0<=dZ ts g/\dZ ts g<16:=by
 unfold dZ;have:=hb (g/2).toNat;split
 ·omega
 ·split<;>omega
theorem Lh (ts:List Int) (f:Int) (t:List Int):∀k,(mV ts f t k).length=ts.length
 |0=>rfl
 |k+1=>by unfold mV;rw[Tu,Lh ts f t k]
theorem E5 {ts:List Int} (hb:Bytes ts) (f:Int) {t:List Int} (ht:∀i,0<=t.getD i 0/\t.getD i 0<16):∀k,Bytes (mV ts f t k)
 |0=>hb
 |k+1=>by unfold mV;exact Vq (E5 hb f ht k) (ht k).1 (ht k).2
theorem aAG {ts:List Int} (hl:ts.length=128) (hb:Bytes ts) {f h:Int} (f0:0<=f) (f1:f<64) (h0:0<=h) (h1:h<256) {t:List Int} (ht:∀i,0<=t.getD i 0/\t.getD i 0<16):∀k,k<=4->dZ (mV ts f t k) h=if f*4<=h/\h<f*4+k then t.getD (h -f*4).toNat 0 else dZ ts h
 |0,_=>by rw[if_neg (by omega)];rfl
 |k+1,hk=>by
  unfold mV;rw[aDS (by rw[Lh];exact hl) (E5 hb f ht k) (by omega) (by omega) h0 h1 (ht k).1 (ht k).2,aAG hl hb f0 f1 h0 h1 ht k (by omega)];by_cases e:h=f*4+(k:Int)
  ·rw[if_pos e,if_pos (by omega),show(h -f*4).toNat=k by omega]
  ·rw[if_neg e]
   by_cases e2:f*4<=h/\h<f*4+k
   ·rw[if_pos e2,if_pos (by omega)]
   ·rw[if_neg e2,if_neg (by omega)]
theorem Ny (ts:List Int) (f tag:Int) (a:Nat):∀k,(mD ts f tag a k).length=ts.length
 |0=>rfl
 |k+1=>by unfold mD;rw[Tu,Ny ts f tag a k]
theorem Ay {ts:List Int} (hb:Bytes ts) (f:Int) {tag:Int} (t0:0<=tag) (t1:tag<16) (a:Nat):∀k,Bytes (mD ts f tag a k)
 |0=>hb
 |k+1=>by unfold mD;exact Vq (Ay hb f t0 t1 a k) t0 t1
theorem aAa {ts:List Int} (hl:ts.length=128) (hb:Bytes ts) {f h tag:Int} (f0:0<=f) (f1:f<64) (h0:0<=h) (h1:h<256) (t0:0<=tag) (t1:tag<16) (a:Nat):∀k,a+k<=4->dZ (mD ts f tag a k) h=if f*4+a<=h/\h<f*4+a+k then tag else dZ ts h
 |0,_=>by rw[if_neg (by omega)];rfl
 |k+1,hk=>by
  unfold mD;rw[aDS (by rw[Ny];exact hl) (Ay hb f t0 t1 a k) (by omega) (by omega) h0 h1 t0 t1,aAa hl hb f0 f1 h0 h1 t0 t1 a k (by omega)];by_cases e:h=f*4+((a+k:Nat):Int)
  ·rw[if_pos e,if_pos (by omega)]
  ·rw[if_neg e]
   by_cases e2:f*4+a<=h/\h<f*4+a+k
   ·rw[if_pos e2,if_pos (by omega)]
   ·rw[if_neg e2,if_neg (by omega)]
section
structure zN (zs:List Int) (ps:Nat->Vp):Prop where
 zl:zs.length=4096
 zb:Bytes zs
 root:∀k,k<4->(ps k).live=true->0<=(ps k).root/\(ps k).root<64
 leaf:∀k,k<4->(ps k).live=true->∀p:Nat,p<64->aG zs (ps k).root p=0\/aG zs (ps k).root p=3
 get:∀k,k<4->(ps k).live=true->∀p:Nat,p<64->lI zs (ps k).root p=0
 rr:∀k,k<4->(ps k).live=true->∀k',k'<4->(ps k').live=true->(ps k).root=(ps k').root->k=k'
 rl:∀k,k<4->(ps k).live=true->∀k',k'<4->(ps k').live=true->∀p:Nat,p<64->aG zs (ps k').root p=0->(ps k).root≠aK zs (ps k').root p
 ll:∀k,k<4->(ps k).live=true->∀k',k'<4->(ps k').live=true->∀p:Nat,p<64->∀p':Nat,p'<64->aG zs (ps k).root p=0->aG zs (ps k').root p'=0->aK zs (ps k).root p=aK zs (ps k').root p'->k=k'/\p/8=p'/8
structure aFZ (zs:List Int) (ps:Nat->Vp) (f:Int):Prop where
 root:∀k,k<4->(ps k).live=true->(ps k).root≠f
 leaf:∀k,k<4->(ps k).live=true->∀p:Nat,p<64->aG zs (ps k).root p=0->aK zs (ps k).root p≠f
structure aBf (zs zs':List Int) (ps:Nat->Vp):Prop where
 lf:∀k,k<4->(ps k).live=true->∀p:Nat,p<64->aG zs' (ps k).root p=aG zs (ps k).root p/\aK zs' (ps k).root p=aK zs (ps k).root p
 en:∀k,k<4->(ps k).live=true->∀p:Nat,p<64->lI zs' (ps k).root p=lI zs (ps k).root p/\j6 zs' (ps k).root p=j6 zs (ps k).root p/\j5 zs' (ps k).root p=j5 zs (ps k).root p
theorem wZ (zs:List Int) (root p:Int):0<=aK zs root p/\aK zs root p<64:=aAw zs root p
section
variable {zs zs':List Int} {ps:Nat->Vp} {f:Int}
theorem zN.same (h:zN zs ps) (hl:zs'.length=4096) (hb:Bytes zs') (hs:aBf zs zs' ps):zN zs' ps where
 zl:=hl
 zb:=hb
 root:=h.root
 leaf:=λk hk hv p hp=>by rw[(hs.lf k hk hv p hp).1];exact h.leaf k hk hv p hp
 get:=λk hk hv p hp=>by rw[(hs.en k hk hv p hp).1];exact h.get k hk hv p hp
 rr:=h.rr
 rl:=λk hk hv k' hk' hv' p hp e=>by rw[(hs.lf k' hk' hv' p hp).2];rw[(hs.lf k' hk' hv' p hp).1] at e;exact h.rl k hk hv k' hk' hv' p hp e
 ll:=λk hk hv k' hk' hv' p hp p' hp' e e'=>by
  rw[(hs.lf k' hk' hv' p' hp').2,(hs.lf k hk hv p hp).2];rw[(hs.lf k hk hv p hp).1] at e;rw[(hs.lf k' hk' hv' p' hp').1] at e';exact h.ll k hk hv k' hk' hv' p hp p' hp' e e'
theorem aBf.dif (h:zN zs ps) (hn:aFZ zs ps f) (hd:Jy f zs zs'):aBf zs zs' ps:=by
 have hlf:∀k,k<4->(ps k).live=true->∀p:Nat,p<64->aG zs' (ps k).root p=aG zs (ps k).root p/\aK zs' (ps k).root p=aK zs (ps k).root p:=λk hk hv p hp=>by
  obtain⟨r0,r1⟩:=h.root k hk hv;exact Oz λ_ _=>hd.at_ h.zl (hn.root k hk hv) r0 r1 (by omega) (by omega)
 refine⟨hlf,λk hk hv p hp=>U0 (hlf k hk hv p hp) λe=> ?_⟩;obtain⟨v0,v1⟩:=wZ zs (ps k).root p;exact hd.at_ h.zl (hn.leaf k hk hv p hp e) v0 v1 (by omega) (by omega)
theorem zN.put (h:zN zs ps) {k:Nat} (hk:k<4) (hv:(ps k).live=true) {p:Nat} (hp:p<64) (hL:aG zs (ps k).root p=0) {K N:Int} (hP:cB K N=0):
 nO zs (ps k).root p K N=0/\Jy (aK zs (ps k).root p) zs (jU zs (ps k).root p K N)/\zN (jU zs (ps k).root p K N) ps/\
 (∀k',k'<4->(ps k').live=true->∀p':Nat,p'<64->aG (jU zs (ps k).root p K N) (ps k').root p'=aG zs (ps k').root p'/\aK (jU zs (ps k).root p K N) (ps k').root p'=aK zs (ps k').root p')/\
 (∀k',k'<4->(ps k').live=true->∀p':Nat,p'<64->(k'≠k\/p'≠p)->j6 (jU zs (ps k).root p K N) (ps k').root p'=j6 zs (ps k').root p'/\j5 (jU zs (ps k).root p K N) (ps k').root p'=j5 zs (ps k').root p')/\
 j6 (jU zs (ps k).root p K N) (ps k).root p=K/\j5 (jU zs (ps k).root p K N) (ps k).root p=N:=by
 obtain⟨v0,v1⟩:=wZ zs (ps k).root p;have hzl:=h.zl;have hok:lJ zs.length (aK zs (ps k).root p) ((p:Int)%8):=by unfold lJ;omega
 have hW:nO zs (ps k).root p K N=0/\jU zs (ps k).root p K N=dO zs (64*aK zs (ps k).root p+4*((p:Int)%8)).toNat (dH K N) 4:=by
  rcases Tt zs (aK zs (ps k).root p) ((p:Int)%8) K N with⟨g,_⟩|⟨_,g,_⟩|⟨_,_,g1,g2⟩
  ·omega
  ·exact absurd hok g
  ·unfold nO jU
   rw[if_neg (by omega),if_neg (by omega)];exact⟨g1,g2⟩
 obtain⟨w1,w2⟩:=hW;rw[w2];have hd:=aEE (zs:=zs) (x:=dH K N) v0 (show 0<=(p:Int)%8 by omega) (by omega);have hlf:∀k',k'<4->(ps k').live=true->∀p':Nat,p'<64->aG (dO zs (64*aK zs (ps k).root p+4*((p:Int)%8)).toNat (dH K N) 4) (ps k').root p'=aG zs (ps k').root p'/\aK (dO zs (64*aK zs (ps k).root p+4*((p:Int)%8)).toNat (dH K N) 4) (ps k').root p'=aK zs (ps k').root p':=λk' hk' hv' p' hp'=>by
  obtain⟨r0,r1⟩:=h.root k' hk' hv';exact Oz λ_ _=>hd.at_ hzl (h.rl k' hk' hv' k hk hv p hp hL) r0 r1 (by omega) (by omega)
 have hne:∀k',k'<4->(ps k').live=true->∀p':Nat,p'<64->(k'≠k\/p'≠p)->lI (dO zs (64*aK zs (ps k).root p+4*((p:Int)%8)).toNat (dH K N) 4) (ps k').root p'=lI zs (ps k').root p'/\j6 (dO zs (64*aK zs (ps k).root p+4*((p:Int)%8)).toNat (dH K N) 4) (ps k').root p'=j6 zs (ps k').root p'/\j5 (dO zs (64*aK zs (ps k).root p+4*((p:Int)%8)).toNat (dH K N) 4) (ps k').root p'=j5 zs (ps k').root p':=λk' hk' hv' p' hp' hne=>by
  refine U0 (hlf k' hk' hv' p' hp') λe=> ?_;obtain⟨u0,u1⟩:=wZ zs (ps k').root p';by_cases ev:aK zs (ps k').root p'=aK zs (ps k).root p
  ·obtain⟨e1,e2⟩:=h.ll k' hk' hv' k hk hv p' hp' p hp e hL ev
   rw[ev];exact aAl hzl v0 v1 (by omega) (by omega) (by omega) (by omega) (by omega)
  ·exact hd.at_ hzl ev u0 u1 (by omega) (by omega)
 obtain⟨q1,q2,q3⟩:=aGY hzl v0 v1 (show 0<=(p:Int)%8 by omega) (by omega) hP;obtain⟨l1,l2⟩:=hlf k hk hv p hp;rw[hL] at l1;have s:lI (dO zs (64*aK zs (ps k).root p+4*((p:Int)%8)).toNat (dH K N) 4) (ps k).root p=0/\j6 (dO zs (64*aK zs (ps k).root p+4*((p:Int)%8)).toNat (dH K N) 4) (ps k).root p=K/\j5 (dO zs (64*aK zs (ps k).root p+4*((p:Int)%8)).toNat (dH K N) 4) (ps k).root p=N:=by
  unfold lI j6 j5;rw[l1,l2,if_neg (by omega),if_neg (by omega),if_pos rfl,if_pos rfl];exact⟨q1,q2,q3⟩
 refine⟨w1,hd,⟨by rw[rR];exact hzl,Sd h.zb _ _ _,h.root,λk' hk' hv' p' hp'=>by rw[(hlf k' hk' hv' p' hp').1];exact h.leaf k' hk' hv' p' hp',λk' hk' hv' p' hp'=> ?_,h.rr,λa ha va k' hk' hv' p' hp' e=>by rw[(hlf k' hk' hv' p' hp').2];rw[(hlf k' hk' hv' p' hp').1] at e;exact h.rl a ha va k' hk' hv' p' hp' e,λa ha va b hb vb x hx y hy e e'=> ?_⟩,hlf,λk' hk' hv' p' hp' hh=>(hne k' hk' hv' p' hp' hh).2,s.2⟩
 ·by_cases e:k'≠k\/p'≠p
  ·rw[(hne k' hk' hv' p' hp' e).1];exact h.get k' hk' hv' p' hp'
  ·obtain rfl:k'=k:=by omega
   obtain rfl:p'=p:=by omega
   exact s.1
 ·rw[(hlf a ha va x hx).2,(hlf b hb vb y hy).2]
  rw[(hlf a ha va x hx).1] at e;rw[(hlf b hb vb y hy).1] at e';exact h.ll a ha va b hb vb x hx y hy e e'
theorem zN.hang (h:zN zs ps) {k:Nat} (hk:k<4) (hv:(ps k).live=true) {p:Nat} (hp:p<64) (hL:aG zs (ps k).root p=3) (f0:0<=f) (f1:f<64) (hn:aFZ zs ps f) (hz:∀j:Int,0<=j->j<8->mO zs f j=0/\pG zs f j=0/\rH zs f j=0):
 wM zs (ps k).root p f=0/\Jy (ps k).root zs (mU zs (ps k).root p f)/\zN (mU zs (ps k).root p f) ps/\
 (∀k',k'<4->(ps k').live=true->∀p':Nat,p'<64->(k'≠k\/p'/8≠p/8)->aG (mU zs (ps k).root p f) (ps k').root p'=aG zs (ps k').root p'/\aK (mU zs (ps k).root p f) (ps k').root p'=aK zs (ps k').root p')/\
 (∀p':Nat,p'<64->p'/8=p/8->aG (mU zs (ps k).root p f) (ps k).root p'=0/\aK (mU zs (ps k).root p f) (ps k).root p'=f/\aG zs (ps k).root p'=3)/\
 (∀k',k'<4->(ps k').live=true->∀p':Nat,p'<64->j6 (mU zs (ps k).root p f) (ps k').root p'=j6 zs (ps k').root p'/\j5 (mU zs (ps k).root p f) (ps k').root p'=j5 zs (ps k').root p'):=by
 obtain⟨r0,r1⟩:=h.root k hk hv;have hzl:=h.zl;have hP:cB 1 f=0:=Bp (by omega) (by omega) f0 f1 (by omega);have hok:lJ zs.length (ps k).root ((p:Int)/8):=by unfold lJ;omega
 have hW:wM zs (ps k).root p f=0/\mU zs (ps k).root p f=dO zs (64*(ps k).root+4*((p:Int)/8)).toNat (dH 1 f) 4:=by
  rcases Tt zs (ps k).root ((p:Int)/8) 1 f with⟨g,_⟩|⟨_,g,_⟩|⟨_,_,g1,g2⟩
  ·omega
  ·exact absurd hok g
  ·unfold wM mU
   rw[if_neg (by omega),if_neg (by omega)];exact⟨g1,g2⟩
 obtain⟨w1,w2⟩:=hW;rw[w2];have hd:=aEE (zs:=zs) (x:=dH 1 f) r0 (show 0<=(p:Int)/8 by omega) (by omega);have hl':(dO zs (64*(ps k).root+4*((p:Int)/8)).toNat (dH 1 f) 4).length=4096:=by rw[rR];exact hzl
 have hlf:∀k',k'<4->(ps k').live=true->∀p':Nat,p'<64->(k'≠k\/p'/8≠p/8)->aG (dO zs (64*(ps k).root+4*((p:Int)/8)).toNat (dH 1 f) 4) (ps k').root p'=aG zs (ps k').root p'/\aK (dO zs (64*(ps k).root+4*((p:Int)/8)).toNat (dH 1 f) 4) (ps k').root p'=aK zs (ps k').root p':=λk' hk' hv' p' hp' hne=>by
  obtain⟨u0,u1⟩:=h.root k' hk' hv';refine Oz λ_ _=> ?_;by_cases e:k'=k
  ·subst e
   exact aAl hzl r0 r1 (by omega) (by omega) (by omega) (by omega) (by omega)
  ·exact hd.at_ hzl (λer=>e (h.rr k' hk' hv' k hk hv er)) u0 u1 (by omega) (by omega)
 obtain⟨q1,q2,q3⟩:=aGY hzl r0 r1 (show 0<=(p:Int)/8 by omega) (by omega) hP;have hin:∀p':Nat,p'<64->p'/8=p/8->aG (dO zs (64*(ps k).root+4*((p:Int)/8)).toNat (dH 1 f) 4) (ps k).root p'=0/\aK (dO zs (64*(ps k).root+4*((p:Int)/8)).toNat (dH 1 f) 4) (ps k).root p'=f/\aG zs (ps k).root p'=3:=λp' hp' e=>by
  have e8:(p':Int)/8=(p:Int)/8:=by omega
  have h0:aG (dO zs (64*(ps k).root+4*((p:Int)/8)).toNat (dH 1 f) 4) (ps k).root p'=0:=by
   unfold aG;rw[e8,q1,q2,if_neg (by omega),if_neg (by omega),if_neg (by omega),if_neg (by omega)]
  refine⟨h0,?_,?_⟩
  ·unfold aK;rw[h0,if_pos rfl,e8,q3]
  ·rw[(aCi (zs:=zs) (root:=(ps k).root) (p:=p') (q:=p) (by omega) (by omega) e8).1];exact hL
 have hfr:f≠(ps k).root:=λe=>hn.root k hk hv e.symm;have hent:∀k',k'<4->(ps k').live=true->∀p':Nat,p'<64->lI (dO zs (64*(ps k).root+4*((p:Int)/8)).toNat (dH 1 f) 4) (ps k').root p'=lI zs (ps k').root p'/\j6 (dO zs (64*(ps k).root+4*((p:Int)/8)).toNat (dH 1 f) 4) (ps k').root p'=j6 zs (ps k').root p'/\j5 (dO zs (64*(ps k).root+4*((p:Int)/8)).toNat (dH 1 f) 4) (ps k').root p'=j5 zs (ps k').root p':=λk' hk' hv' p' hp'=>by
  by_cases e:k'≠k\/p'/8≠p/8
  ·refine U0 (hlf k' hk' hv' p' hp' e) λe0=> ?_
   obtain⟨u0,u1⟩:=wZ zs (ps k').root p';exact hd.at_ hzl (λer=>h.rl k hk hv k' hk' hv' p' hp' e0 er.symm) u0 u1 (by omega) (by omega)
  ·obtain rfl:k'=k:=by omega
   obtain⟨i1,i2,i3⟩:=hin p' hp' (by omega);obtain⟨g1,g2,g3⟩:=get_none i3;obtain⟨z1,z2,z3⟩:=hz ((p':Int)%8) (by omega) (by omega);obtain⟨d1,d2,d3⟩:=hd.at_ (k:=(p':Int)%8) hzl hfr f0 f1 (by omega) (by omega);rw[g1,g2,g3];unfold lI j6 j5;rw[i1,i2,if_neg (by omega),if_neg (by omega),if_pos rfl,if_pos rfl,d1,d2,d3];exact⟨z1,z2,z3⟩
 refine⟨w1,hd,⟨hl',Sd h.zb _ _ _,h.root,λk' hk' hv' p' hp'=> ?_,λk' hk' hv' p' hp'=>by rw[(hent k' hk' hv' p' hp').1];exact h.get k' hk' hv' p' hp',h.rr,λa ha va k' hk' hv' p' hp' e=> ?_,λa ha va b hb vb x hx y hy e e'=> ?_⟩,hlf,hin,λk' hk' hv' p' hp'=>(hent k' hk' hv' p' hp').2⟩
 ·by_cases e:k'≠k\/p'/8≠p/8
  ·rw[(hlf k' hk' hv' p' hp' e).1];exact h.leaf k' hk' hv' p' hp'
  ·obtain rfl:k'=k:=by omega
   exact .inl (hin p' hp' (by omega)).1
 ·by_cases e2:k'≠k\/p'/8≠p/8
  ·rw[(hlf k' hk' hv' p' hp' e2).2];rw[(hlf k' hk' hv' p' hp' e2).1] at e;exact h.rl a ha va k' hk' hv' p' hp' e
  ·obtain rfl:k'=k:=by omega
   rw[(hin p' hp' (by omega)).2.1];exact hn.root a ha va
 ·intro ee
  by_cases e2:a≠k\/x/8≠p/8
  ·rw[(hlf a ha va x hx e2).1] at e
   rw[(hlf a ha va x hx e2).2] at ee;by_cases e3:b≠k\/y/8≠p/8
   ·rw[(hlf b hb vb y hy e3).1] at e'
    rw[(hlf b hb vb y hy e3).2] at ee;exact h.ll a ha va b hb vb x hx y hy e e' ee
   ·obtain rfl:b=k:=by omega
    rw[(hin y hy (by omega)).2.1] at ee;exact absurd ee (hn.leaf a ha va x hx e)
  ·obtain rfl:a=k:=by omega
   rw[(hin x hx (by omega)).2.1] at ee;by_cases e3:b≠a\/y/8≠p/8
   ·rw[(hlf b hb vb y hy e3).1] at e'
    rw[(hlf b hb vb y hy e3).2] at ee;exact absurd ee.symm (hn.leaf b hb vb y hy e')
   ·omega
end
end
section
abbrev iD:=Int×Int
def dE (e:Nat->iD) (z:iD):Int:=aM (λi=>ind (e i=z)) 256
def full (e:Nat->iD):Int:=aM (λi=>ind ((e i).1≠0)) 256
theorem oJ (e:Nat->iD) (z:iD):0<=dE e z:=wQ λi _=>(dS _).1
theorem iW {e:Nat->iD} {z:iD} {i:Nat} (hi:i<256) (h:e i=z):0<dE e z:=by
 have:=Dz (f:=λi=>ind (e i=z)) hi (λi _=>(dS _).1);simp only[bP h] at this;unfold dE;omega
theorem Ru {e:Nat->iD} {z:iD} (h:0<dE e z):∃i,i<256/\e i=z:=by
 obtain⟨i,hi,h2⟩:=aIj h;refine⟨i,hi,?_⟩;by_cases e:e i=z
 ·exact e
 ·simp only[aY e] at h2;omega
theorem aAQ {e:Nat->iD} {z:iD} (h:∀i,i<256->e i≠z):dE e z=0:=by
 by_cases h2:0<dE e z
 ·obtain⟨i,hi,h3⟩:=Ru h2
  exact absurd h3 (h i hi)
 ·have:=oJ e z;omega
theorem vO {e e':Nat->iD} {z:iD} (h:∀i,i<256->(e i=z↔e' i=z)):dE e z=dE e' z:=
 dM λi hi=>by
  by_cases h1:e i=z
  ·rw[bP h1,bP ((h i hi).1 h1)]
  ·rw[aY h1,aY λh2=>h1 ((h i hi).2 h2)]
theorem vL {e e':Nat->iD} (h:∀i,i<256->((e i).1=0↔(e' i).1=0)):full e=full e':=
 dM λi hi=>by
  by_cases h1:(e i).1=0
  ·rw[aY (not_not_intro h1),aY (not_not_intro ((h i hi).1 h1))]
  ·rw[bP (p:=(e i).1≠0) h1,bP (p:=(e' i).1≠0) λh2=>h1 ((h i hi).2 h2)]
def qV (e:Nat->iD) (i:Nat) (z:iD):Nat->iD:=λj=>if j=i then z else e j
theorem pM (e:Nat->iD) (i:Nat) (z:iD):qV e i z i=z:=if_pos rfl
theorem jB (e:Nat->iD) {i j:Nat} (z:iD) (h:j≠i):qV e i z j=e j:=if_neg h
theorem aC8 {e:Nat->iD} {i:Nat} (hi:i<256) (z y:iD):dE (qV e i z) y=dE e y -ind (e i=y)+ind (z=y):=by
 have:=lW (f:=λj=>ind (qV e i z j=y)) (g:=λj=>ind (e j=y)) hi (λj _ h=>by rw[jB e z h]);simp only[pM] at this;unfold dE;omega
theorem Le {e:Nat->iD} {i:Nat} (hi:i<256) (z:iD):full (qV e i z)=full e -ind ((e i).1≠0)+ind (z.1≠0):=by
 have:=lW (f:=λj=>ind ((qV e i z j).1≠0)) (g:=λj=>ind ((e j).1≠0)) hi (λj _ h=>by rw[jB e z h]);simp only[pM] at this;unfold full;omega
structure iH (e:Nat->iD) (tb:Nat->Int) (rf:Nat->Int) (fx:Nat->Bool) (sr:Nat->Int) (x y:Nat->Int) (W:List Nat):Prop where
 er:∀i,i<256->cB (e i).1 (e i).2=0
 x0:∀f,0<=x f
 y0:∀s,0<=y s
 tr:∀t,t<36->tb t= -1\/(0<=tb t/\tb t<64)
 td:∀t,t<36->∀t',t'<36->tb t=tb t'->tb t≠ -1->t=t'
 tf:∀t,t<36->tb t≠ -1->fx (tb t).toNat=true/\rf (tb t).toNat=1
 et:∀i,i<256->(e i).1=1->∀t,t<36->tb t≠(e i).2
 fr:∀f:Nat,f<64->(∀t,t<36->tb t≠f)->rf f=dE e (1,f)+x f
 sy:∀s:Nat,s<64->sr s=dE e (2,s)+y s
 y1:∀s:Nat,s<64->0<y s->0<dE e (2,s)
 pg:∀i,i<256->∀j,j<256->e i=e j->(e i).1≠0->i%64=j%64
 all:full e<=64
 fw:∀f:Nat,f<64->fx f=true->(∃t,t<36/\tb t=f)\/f∈W
 lf:∀i,i<256->(e i).1≠0->tb (9*(i/64)+1+i%64/8)≠ -1
section
variable {e e':Nat->iD} {tb tb':Nat->Int} {rf rf':Nat->Int} {fx fx':Nat->Bool} {sr Ob:Nat->Int} {x y x' y':Nat->Int} {W W':List Nat}
theorem iH.congr (h:iH e tb rf fx sr x y W) (he:∀i,i<256->e' i=e i) (ht:∀t,t<36->tb' t=tb t) (hr:∀f,f<64->rf' f=rf f) (hf:∀f,f<64->fx' f=fx f) (hs:∀s,s<64->Ob s=sr s):iH e' tb' rf' fx' Ob x y W where
 er:=λi hi=>by rw[he i hi];exact h.er i hi
 x0:=h.x0
 y0:=h.y0
 tr:=λt ht'=>by rw[ht t ht'];exact h.tr t ht'
 td:=λt h1 t' h2=>by rw[ht t h1,ht t' h2];exact h.td t h1 t' h2
 tf:=λt h1 h2=>by
  rw[ht t h1] at*;have:=h.tr t h1;rw[hf _ (by omega),hr _ (by omega)];exact h.tf t h1 h2
 et:=λi hi h1 t h2=>by rw[he i hi] at*;rw[ht t h2];exact h.et i hi h1 t h2
 fr:=λf hf' h1=>by
  rw[hr f hf',vO (e':=e) λi hi=>by rw[he i hi]];exact h.fr f hf' λt h2=>by rw[<-ht t h2];exact h1 t h2
 sy:=λs h1=>by rw[hs s h1,vO (e':=e) λi hi=>by rw[he i hi]];exact h.sy s h1
 y1:=λs h1=>by rw[vO (e':=e) λi hi=>by rw[he i hi]];exact h.y1 s h1
 pg:=λi hi j hj=>by rw[he i hi,he j hj];exact h.pg i hi j hj
 all:=by rw[vL (e':=e) λi hi=>by rw[he i hi]];exact h.all
 fw:=λf h1 h2=>by
  rw[hf f h1] at h2;rcases h.fw f h1 h2 with⟨t,h3,h4⟩|h3
  ·exact .inl ⟨t,h3,by rw[ht t h3];exact h4⟩
  ·exact .inr h3
 lf:=λi hi h1=>by rw[he i hi] at h1;rw[ht _ (by omega)];exact h.lf i hi h1
theorem iH.aFe (h:iH e tb rf fx sr x y W) {f:Nat} (h1:fx f=false\/rf f≠1):∀t,t<36->tb t≠f:=λt ht hf=>by
 have:=h.tf t ht (by omega);rw[hf,Int.toNat_natCast] at this;rcases h1 with h1|h1
 ·rw[this.1] at h1;cases h1
 ·exact h1 this.2
theorem iH.four (h:iH e tb rf fx sr x y W) {z:iD} (hz:z.1≠0):dE e z<=4:=by
 by_cases h0:0<dE e z
 ·obtain⟨i,hi,hiz⟩:=Ru h0
  have hle:dE e z<=aM (λj=>ind (j%64=i%64)) 256:=fV λj hj=>by
   by_cases hjz:e j=z
   ·rw[bP hjz,bP (h.pg j hj i hi (by rw[hjz,hiz]) (by rw[hjz];exact hz))];omega
   ·rw[aY hjz];exact(dS _).1
  have hm:i%64<64:=Nat.mod_lt _ (by omega);have h4:∀a,a<64->aM (λj=>ind (j%64=a)) 256=4:=by decide+kernel
  rw[h4 _ hm] at hle;exact hle
 ·omega
theorem iH.three (h:iH e tb rf fx sr x y W) {z:iD} (hz:z.1≠0) {k:Nat} (hk:k<4) (hn:∀p,p<64->e (64*k+p)≠z):dE e z<=3:=by
 by_cases h0:0<dE e z
 ·obtain⟨i,hi,hiz⟩:=Ru h0
  have hle:dE e z<=aM (λj=>ind (j%64=i%64/\j/64≠k)) 256:=fV λj hj=>by
   by_cases hjz:e j=z
   ·rw[bP hjz,bP ⟨h.pg j hj i hi (by rw[hjz,hiz]) (by rw[hjz];exact hz),λhjk=>hn (j%64) (Nat.mod_lt _ (by omega)) (by rw[<-hjk,show 64*(j/64)+j%64=j by omega];exact hjz)⟩];omega
   ·rw[aY hjz];exact(dS _).1
  have hm:i%64<64:=Nat.mod_lt _ (by omega);have h4:∀k,k<4->∀a,a<64->aM (λj=>ind (j%64=a/\j/64≠k)) 256=3:=by decide+kernel
  rw[h4 _ hk _ hm] at hle;exact hle
 ·omega
theorem iH.loose (h:iH e tb rf fx sr x y W) (hW:W.length<=4):∃f,f<64/\fx f=false:=by
 by_cases hx:∃f,f<64/\fx f=false
 ·exact hx
 ·have hall:∀f,f<64->fx f=true:=λf hf=>by
   cases hq:fx f with
   |true=>rfl
   |false=>exact absurd ⟨f,hf,hq⟩ hx
  have h1:∀f,f<64->(1:Int)<=aM (λt=>ind (tb t=((f:Nat):Int))) 36+aM (λk=>ind (W[k]? =some f)) 4:=λf hf=>by
   rcases h.fw f hf (hall f hf) with⟨t,ht,hft⟩|hf2
   ·have:=Dz (f:=λt=>ind (tb t=((f:Nat):Int))) ht (λi _=>(dS _).1)
    have h2:=wQ (f:=λk=>ind (W[k]? =some f)) (n:=4) (λi _=>(dS _).1);simp only[bP hft] at this;omega
   ·obtain⟨k,hk,hkf⟩:=List.getElem_of_mem hf2
    have:=Dz (f:=λk=>ind (W[k]? =some f)) (show k<4 by omega) (λi _=>(dS _).1);have h2:=wQ (f:=λt=>ind (tb t=((f:Nat):Int))) (n:=36) (λi _=>(dS _).1);simp only[bP (show W[k]? =some f by rw[List.getElem?_eq_getElem hk,hkf])] at this;omega
  have h2:=fV h1;rw[wP,zU,rO (λf t=>ind (tb t=((f:Nat):Int))),rO (λf k=>ind (W[k]? =some f))] at h2;have h3:aM (λt=>aM (λf=>ind (tb t=((f:Nat):Int))) 64) 36<=aM (λ_=>1) 36:=fV λt ht=>by
   by_cases hq:∃f:Nat,f<64/\tb t=f
   ·obtain⟨f,hf,hq⟩:=hq
    rw[nX hf (λi hi hne=>aY λhh=>hne (by omega))];exact(dS _).2
   ·rw[dM (g:=λ_=>0) (λf hf=>aY λhh=>hq ⟨f,hf,hh⟩),fZ];omega
  have h4:aM (λk=>aM (λf=>ind (W[k]? =some f)) 64) 4<=aM (λ_=>1) 4:=fV λk hk=>by
   by_cases hq:∃f:Nat,f<64/\W[k]? =some f
   ·obtain⟨f,hf,hq⟩:=hq
    rw[nX hf (λi hi hne=>aY λhh=>hne (by rw[hq] at hh;exact(Option.some.inj hh).symm))];exact(dS _).2
   ·rw[dM (g:=λ_=>0) (λf hf=>aY λhh=>hq ⟨f,hf,hh⟩),fZ];omega
  rw[wP] at h3 h4;omega
theorem iH.room (h:iH e tb rf fx sr x y W) {f:Nat} (hc:0<dE e (1,f)):∃s,s<64/\sr s=0:=by
 by_cases hx:∃s,s<64/\sr s=0
 ·exact hx
 ·have h1:∀s,s<64->(1:Int)<=dE e (2,(s:Nat)):=λs hs=>by
   have a:=h.sy s hs;have b:=h.y0 s;have c:=oJ e (2,(s:Nat));by_cases hy:0<y s
   ·have:=h.y1 s hs hy;omega
   ·have:sr s≠0:=λhh=>hx ⟨s,hs,hh⟩
    omega
  have h2:=fV h1;rw[wP] at h2;unfold dE at h2;rw[rO (λs i=>ind (e i=(2,((s:Nat):Int))))] at h2;have h3:aM (λi=>aM (λs=>ind (e i=(2,((s:Nat):Int)))) 64) 256+dE e (1,f)<=full e:=by
   unfold dE full;rw[<-zU];refine fV λi hi=> ?_;by_cases h1:(e i).1=2
   ·have hr:=nH (h.er i hi)
    rw[aY (p:=e i=(1,(f:Int))) (λhh=>by rw[hh] at h1;cases h1),bP (p:=(e i).1≠0) (by omega),nX (j:=(e i).2.toNat) (by omega) (λs hs hne=>aY λhh=>hne (by rw[hh];simp))];have:=(dS (e i=(2,(((e i).2.toNat:Nat):Int)))).2;omega
   ·rw[dM (g:=λ_=>0) (λs hs=>aY λhh=>h1 (by rw[hh])),fZ]
    by_cases h4:e i=(1,(f:Int))
    ·rw[bP h4,bP (p:=(e i).1≠0) (by rw[h4];simp)];omega
    ·rw[aY h4];have:=(dS ((e i).1≠0)).1;omega
  have:=h.all;omega
def mJ (e:Nat->iD) (f s:Nat):Nat->iD:=λi=>if e i=(1,(f:Int)) then(2,(s:Int)) else e i
theorem aMC (e:Nat->iD) (f s g:Nat) (hs:g≠f):dE (mJ e f s) (1,g)=dE e (1,g):=vO λi hi=>by
 unfold mJ;split
 ·rename_i h
  rw[h];simp;omega
 ·exact Iff.rfl
theorem aMB (e:Nat->iD) (f s:Nat):dE (mJ e f s) (1,f)=0:=aAQ λi hi=>by
 unfold mJ;split
 ·simp
 ·assumption
theorem aMA {e:Nat->iD} {f s:Nat} (h0:dE e (2,s)=0):dE (mJ e f s) (2,s)=dE e (1,f):=dM λi hi=>by
 unfold mJ;by_cases h:e i=(1,(f:Int))
 ·rw[if_pos h,bP rfl,bP h]
 ·rw[if_neg h,aY h]
  refine aY λhh=> ?_;have:=iW hi hh;omega
theorem aG3 (e:Nat->iD) (f s g:Nat) (hs:g≠s):dE (mJ e f s) (2,g)=dE e (2,g):=vO λi hi=>by
 unfold mJ;split
 ·rename_i h
  rw[h];simp;omega
 ·exact Iff.rfl
theorem aG2 (e:Nat->iD) (f s:Nat):full (mJ e f s)=full e:=vL λi hi=>by
 unfold mJ;split
 ·rename_i h
  rw[h];simp
 ·exact Iff.rfl
theorem iH.aFM (h:iH e tb rf fx sr x y W) {f s:Nat} (hf:f<64) (hs:s<64) (hx:fx f=false) (h0:x f=0) (Gu:sr s=0) (he:∀i,i<256->e' i=mJ e f s i) (ht:∀t,t<36->tb' t=tb t) (hr:∀g,g<64->rf' g=if g=f then 0 else rf g) (hfx:∀g,g<64->fx' g=fx g) (aOA:∀q,q<64->Ob q=if q=s then rf f else sr q):iH e' tb' rf' fx' Ob x y W:=by
 have hnt:=h.aFe (.inl hx);have hc:=h.fr f hf hnt;have hs0:=h.sy s hs;have hy0:=h.y0 s;have hcs:=oJ e (2,(s:Nat));have aNg:dE e (2,(s:Nat))=0:=by omega
 refine iH.congr (e:=mJ e f s) (tb:=tb) (rf:=λg=>if g=f then 0 else rf g) (fx:=fx) (sr:=λq=>if q=s then rf f else sr q) ?_ he ht hr hfx aOA;refine⟨λi hi=> ?_,h.x0,h.y0,h.tr,h.td,λt h1 h2=> ?_,λi hi h1 t h2=> ?_,λg hg h1=> ?_,λq hq=> ?_,λq hq h1=> ?_,λi hi j hj=> ?_,by rw[aG2];exact h.all,h.fw,λi hi h1=> ?_⟩
 ·unfold mJ
  split
  ·exact Bp (by simp) (by simp) (by omega) (by omega) (by simp)
  ·exact h.er i hi
 ·have:=h.tf t h1 h2
  have h3:=h.tr t h1;rw[if_neg (λhh=>hnt t h1 (by omega))];exact this
 ·unfold mJ at h1⊢
  split at h1
  ·simp at h1
  ·rename_i h3
   rw[if_neg h3];exact h.et i hi h1 t h2
 ·by_cases hgf:g=f
  ·subst hgf
   rw[if_pos rfl,aMB,h0];rfl
  ·rw[if_neg hgf,aMC e f s g hgf];exact h.fr g hg h1
 ·by_cases Mg:q=s
  ·subst Mg
   rw[if_pos rfl,aMA aNg,hc,h0];omega
  ·rw[if_neg Mg,aG3 e f s q Mg];exact h.sy q hq
 ·by_cases Mg:q=s
  ·subst Mg
   omega
  ·rw[aG3 e f s q Mg];exact h.y1 q hq h1
 ·unfold mJ
  intro h1 h2;by_cases h3:e i=(1,(f:Int))
  ·by_cases h4:e j=(1,(f:Int))
   ·exact h.pg i hi j hj (by rw[h3,h4]) (by rw[h3];simp)
   ·rw[if_pos h3,if_neg h4] at h1
    have:=iW hj h1.symm;omega
  ·by_cases h4:e j=(1,(f:Int))
   ·rw[if_neg h3,if_pos h4] at h1
    have:=iW hi h1;omega
   ·rw[if_neg h3,if_neg h4] at h1
    rw[if_neg h3] at h2;exact h.pg i hi j hj h1 h2
 ·refine h.lf i hi λh2=>h1 ?_
  unfold mJ;rw[if_neg (λhh=>by rw[hh] at h2;cases h2)];exact h2
theorem iH.take (h:iH e tb rf fx sr x y W) {f:Nat} (hf:f<64) (h0:rf f=0):(∀t,t<36->tb t≠f)/\dE e (1,f)=0/\x f=0/\iH e tb (aO rf f 1) fx sr (aO x f 1) y W:=by
 have hnt:=h.aFe (f:=f) (.inr (by omega));have hc:=h.fr f hf hnt;have hx0:=h.x0 f;have hcs:=oJ e (1,(f:Nat));refine⟨hnt,by omega,by omega,⟨h.er,λg=> ?_,h.y0,h.tr,h.td,λt h1 h2=> ?_,h.et,λg hg h1=> ?_,h.sy,h.y1,h.pg,h.all,h.fw,h.lf⟩⟩
 ·unfold aO;split
  ·omega
  ·exact h.x0 g
 ·have:=h.tf t h1 h2
  have h3:=h.tr t h1;unfold aO;rw[if_neg (λhh=>hnt t h1 (by omega))];exact this
 ·unfold aO
  by_cases hgf:g=f
  ·rw[if_pos hgf,if_pos hgf,hgf];omega
  ·rw[if_neg hgf,if_neg hgf];exact h.fr g hg h1
theorem iH.hold (h:iH e tb rf fx sr x y W) (f:Nat):iH e tb rf (dV fx f true) sr x y (f::W):=
 ⟨h.er,h.x0,h.y0,h.tr,h.td,λt h1 h2=>⟨by unfold dV;split;rfl;exact(h.tf t h1 h2).1,(h.tf t h1 h2).2⟩,h.et,h.fr,h.sy,h.y1,h.pg,h.all,λg hg h1=>by
   unfold dV at h1;by_cases hgf:g=f
   ·exact .inr (by rw[hgf];exact List.mem_cons_self)
   ·rw[if_neg hgf] at h1
    exact(h.fw g hg h1).imp id (List.mem_cons_of_mem _),h.lf⟩
theorem iH.loosen (h:iH e tb rf fx sr x y W) {f:Nat} (hn:∀t,t<36->tb t≠f):iH e tb rf (dV fx f false) sr x y (W.filter (· ≠f)):=
 ⟨h.er,h.x0,h.y0,h.tr,h.td,λt h1 h2=>⟨by have:=hn t h1;have:=h.tr t h1;unfold dV;rw[if_neg (by omega)];exact(h.tf t h1 h2).1,(h.tf t h1 h2).2⟩,h.et,h.fr,h.sy,h.y1,h.pg,h.all,λg hg h1=>by
   unfold dV at h1;by_cases hgf:g=f
   ·rw[if_pos hgf] at h1;cases h1
   ·rw[if_neg hgf] at h1
    exact(h.fw g hg h1).imp id (λh2=>List.mem_filter.2 ⟨h2,by simpa using hgf⟩),h.lf⟩
theorem iH.table (h:iH e tb rf fx sr x y W) {f q:Nat} (hf:f<64) (hq:q<36) (h0:tb q= -1) (hn:∀t,t<36->tb t≠f) (hx:fx f=true) (h1:x f=1) (hc:dE e (1,f)=0) (hr:rf f=1)
 (ht:∀t,t<36->tb' t=if t=q then(f:Int) else tb t):iH e tb' rf fx sr (aO x f 0) y (W.filter (· ≠f)):=by
 have hen:∀i,i<256->e i≠(1,(f:Int)):=λi hi hh=>by have:=iW hi hh;omega
 refine⟨h.er,λg=> ?_,h.y0,λt h2=> ?_,λt h2 t' h3 h4 h5=> ?_,λt h2 h3=> ?_,λi hi h2 t h3=> ?_,λg hg h2=> ?_,h.sy,h.y1,h.pg,h.all,λg hg h2=> ?_,λi hi h2=> ?_⟩
 ·unfold aO;split
  ·omega
  ·exact h.x0 g
 ·rw[ht t h2];split
  ·omega
  ·exact h.tr t h2
 ·rw[ht t h2] at h4 h5;rw[ht t' h3] at h4
  have a:=hn t h2;have b:=hn t' h3;by_cases c:t=q<;>by_cases d:t'=q
  ·omega
  ·rw[if_pos c,if_neg d] at h4;omega
  ·rw[if_neg c,if_pos d] at h4;omega
  ·rw[if_neg c,if_neg d] at h4;rw[if_neg c] at h5;exact h.td t h2 t' h3 h4 h5
 ·rw[ht t h2] at h3⊢
  by_cases c:t=q
  ·rw[if_pos c,Int.toNat_natCast];exact⟨hx,hr⟩
  ·rw[if_neg c] at h3⊢;exact h.tf t h2 h3
 ·rw[ht t h3];split
  ·intro hh
   exact hen i hi (by rw[<-Prod.eta (e i),h2,hh])
  ·exact h.et i hi h2 t h3
 ·have h3:∀t,t<36->tb t≠g:=λt h3 hh=>by
   have:=h2 t h3;rw[ht t h3] at this;by_cases c:t=q
   ·subst c;omega
   ·rw[if_neg c] at this;exact this hh
  have hgf:g≠f:=λhh=>by
   have:=h2 q hq;rw[ht q hq,if_pos rfl] at this;exact this (by omega)
  unfold aO;rw[if_neg hgf];exact h.fr g hg h3
 ·by_cases hgf:g=f
  ·exact .inl ⟨q,hq,by rw[ht q hq,if_pos rfl,hgf]⟩
  ·rcases h.fw g hg h2 with⟨t,h3,h4⟩|h3
   ·refine .inl ⟨t,h3,?_⟩
    rw[ht t h3];split
    ·rename_i c;subst c;omega
    ·exact h4
   ·exact .inr (List.mem_filter.2 ⟨h3,by simpa using hgf⟩)
 ·rw[ht _ (by omega)];split
  ·omega
  ·exact h.lf i hi h2
end
end
def aA (v:Vm) (i:Nat):iD:=if(v.ps (i/64)).live=true then gF v (i/64) ((i%64:Nat):Int) else(0,0)
def aI (v:Vm) (t:Nat):Int:=
 if(v.ps (t/9)).live=true then(if t%9=0 then(v.ps (t/9)).root else if aG v.zs (v.ps (t/9)).root ((8*(t%9 -1):Nat):Int)=0 then aK v.zs (v.ps (t/9)).root ((8*(t%9 -1):Nat):Int) else -1) else -1
def sl (v:Vm) (s:Nat):gT:=v.dv.getD s default
def eB (v:Vm) (s:Nat):Int:=(sl v s).r
def aBd (t:List Int):Prop:=∀i,0<=t.getD i 0/\t.getD i 0<16
structure Fmt (v:Vm):Prop where
 tl:v.ts.length=128
 tb:Bytes v.ts
 dl:v.dv.length=64
 ds:∀s,s<64->0<eB v s->(sl v s).b.length=64/\(sl v s).t.length=4/\Bytes (sl v s).b/\aBd (sl v s).t
 ul:v.us.length=64
 h0:0<=v.hd
 h1:v.hd<64
def Tlo (v:Vm):Prop:=∀c∈v.tl,∃i,i<256/\c.p=((i/64:Nat):Int)/\c.g=((i%64:Nat):Int)/\c.k=1/\aA v i=(1,c.n)
structure dX (v:Vm) (x y:Nat->Int) (W:List Nat):Prop where
 T:zN v.zs v.ps
 F:Fmt v
 A:iH (aA v) (aI v) v.rf v.fx (eB v) x y W
 L:Tlo v
theorem Jh {v:Vm} {k p:Nat} (hv:(v.ps k).live=true) (hp:p<64):aA v (64*k+p)=(j6 v.zs (v.ps k).root p,j5 v.zs (v.ps k).root p):=by
 unfold aA gF;rw[show(64*k+p)/64=k by omega,show(64*k+p)%64=p by omega,if_pos hv]
theorem xQ {v:Vm} {k p:Nat} (hv:(v.ps k).live=false) (hp:p<64):aA v (64*k+p)=(0,0):=by
 unfold aA;rw[show(64*k+p)/64=k by omega,hv];rfl
theorem Br {i:Nat} (hi:i<256):∃k p,k<4/\p<64/\i=64*k+p:=⟨i/64,i%64,by omega,Nat.mod_lt _ (by omega),by omega⟩
theorem pV {v:Vm} {k:Nat} (hv:(v.ps k).live=true):aI v (9*k)=(v.ps k).root:=by
 unfold aI;rw[show 9*k/9=k by omega,show 9*k%9=0 by omega,if_pos hv,if_pos rfl]
theorem pW {v:Vm} {k p:Nat} (hv:(v.ps k).live=true) (hp:p<64):aI v (9*k+1+p/8)=if aG v.zs (v.ps k).root p=0 then aK v.zs (v.ps k).root p else -1:=by
 unfold aI;rw[show(9*k+1+p/8)/9=k by omega,show(9*k+1+p/8)%9=p/8+1 by omega,if_pos hv,if_neg (by omega)];obtain⟨e1,e2⟩:=aCi (zs:=v.zs) (root:=(v.ps k).root) (p:=((8*(p/8+1 -1):Nat):Int)) (q:=(p:Int)) (by omega) (by omega) (by omega);rw[e1,e2]
theorem xI {v:Vm} {t:Nat} (hv:(v.ps (t/9)).live=false):aI v t= -1:=by
 unfold aI;rw[hv];rfl
theorem aAb {t:Nat} (ht:t<36):∃k,k<4/\(t=9*k\/∃p,p<64/\t=9*k+1+p/8):=by
 refine⟨t/9,by omega,?_⟩;by_cases h:t%9=0
 ·exact .inl (by omega)
 ·exact .inr ⟨8*(t%9 -1),by omega,by omega⟩
theorem aAc {v v':Vm} (hp:v'.ps=v.ps) (h:∀k,k<4->(v.ps k).live=true->∀p:Nat,p<64->aG v'.zs (v.ps k).root p=aG v.zs (v.ps k).root p/\aK v'.zs (v.ps k).root p=aK v.zs (v.ps k).root p):∀t,t<36->aI v' t=aI v t:=by
 intro t ht;unfold aI;rw[hp];by_cases hv:(v.ps (t/9)).live=true
 ·rw[if_pos hv,if_pos hv]
  by_cases h0:t%9=0
  ·rw[if_pos h0,if_pos h0]
  ·obtain⟨e1,e2⟩:=h (t/9) (by omega) hv (8*(t%9 -1)) (by omega)
   rw[if_neg h0,if_neg h0,e1,e2]
 ·rw[if_neg hv,if_neg hv]
theorem aAK {v v':Vm} (hp:v'.ps=v.ps) (h:∀k,k<4->(v.ps k).live=true->∀p:Nat,p<64->j6 v'.zs (v.ps k).root p=j6 v.zs (v.ps k).root p/\j5 v'.zs (v.ps k).root p=j5 v.zs (v.ps k).root p):∀i,i<256->aA v' i=aA v i:=by
 intro i hi;unfold aA gF;rw[hp];by_cases hv:(v.ps (i/64)).live=true
 ·obtain⟨e1,e2⟩:=h (i/64) (by omega) hv (i%64) (by omega)
  rw[if_pos hv,if_pos hv,e1,e2]
 ·rw[if_neg hv,if_neg hv]
theorem Ur {v:Vm} {f:Int} (h:∀t,t<36->aI v t≠f):aFZ v.zs v.ps f:=
 ⟨λk hk hv hf=>h (9*k) (by omega) (by rw[pV hv];exact hf),λk hk hv p hp e hf=>h (9*k+1+p/8) (by omega) (by rw[pW hv hp,if_pos e];exact hf)⟩
def cb (v:Vm) (i n:Nat):Int:=if(aA v i).1=1 then v.zs.getD (((aA v i).2*64).toNat+n) 0 else if(aA v i).1=2 then(sl v (aA v i).2.toNat).b.getD n 0 else 0
def ct (v:Vm) (i g:Nat):Int:=if(aA v i).1=1 then dZ v.ts ((aA v i).2*4+(g:Int)) else if(aA v i).1=2 then(sl v (aA v i).2.toNat).t.getD g 0 else 0
def dL (v:Vm):Int:=aM (λf=>min (v.rf f) 1) 64+aM (λs=>min (eB v s) 1) 64
structure Kee (v v':Vm):Prop where
 ps:v'.ps=v.ps
 fx:v'.fx=v.fx
 cb:∀i,i<256->∀n,n<64->cb v' i n=cb v i n
 ct:∀i,i<256->∀g,g<4->ct v' i g=ct v i g
 no:∀i,i<256->((aA v' i).1=0↔(aA v i).1=0)
 held:∀i,i<256->(aA v i).1=1->v.fx (aA v i).2.toNat=true->aA v' i=aA v i
 out:∀i,i<256->(aA v i).1=2->aA v' i=aA v i
 rf:∀f,f<64->v.fx f=true->v'.rf f=v.rf f
 byte:∀f:Nat,f<64->(∀t,t<36->aI v t≠f)->∀n,n<64->v'.zs.getD (((f:Int)*64).toNat+n) 0=v.zs.getD (((f:Int)*64).toNat+n) 0
 tag:v'.ts=v.ts
 tab:∀t,t<36->aI v' t=aI v t
 lf:∀k,k<4->(v.ps k).live=true->∀p:Nat,p<64->aG v'.zs (v.ps k).root p=aG v.zs (v.ps k).root p/\aK v'.zs (v.ps k).root p=aK v.zs (v.ps k).root p
theorem Kee.refl (v:Vm):Kee v v:=⟨rfl,rfl,λ_ _ _ _=>rfl,λ_ _ _ _=>rfl,λ_ _=>Iff.rfl,λ_ _ _ _=>rfl,λ_ _ _=>rfl,λ_ _ _=>rfl,λ_ _ _ _ _=>rfl,rfl,λ_ _=>rfl,λ_ _ _ _ _=>⟨rfl,rfl⟩⟩
theorem zT {v:Vm} (hT:zN v.zs v.ps) (hL:Tlo v) {k:Nat} (hk:k<4) (hv:(v.ps k).live=true) {p:Nat} (hp:p<64) (hf:aG v.zs (v.ps k).root p=0) {K N:Int} (hP:cB K N=0):
 nO v.zs (v.ps k).root p K N=0/\Jy (aK v.zs (v.ps k).root p) v.zs (eT v k p K N).zs/\zN (eT v k p K N).zs v.ps/\
 (∀k',k'<4->(v.ps k').live=true->∀p':Nat,p'<64->aG (eT v k p K N).zs (v.ps k').root p'=aG v.zs (v.ps k').root p'/\aK (eT v k p K N).zs (v.ps k').root p'=aK v.zs (v.ps k').root p')/\
 (∀i,i<256->aA (eT v k p K N) i=qV (aA v) (64*k+p) (K,N) i)/\(∀t,t<36->aI (eT v k p K N) t=aI v t)/\Tlo (eT v k p K N):=by
 obtain⟨h1,h2,h3,h4,h5,h6,h7⟩:=hT.put hk hv hp hf hP;have hE:∀i,i<256->aA (eT v k p K N) i=qV (aA v) (64*k+p) (K,N) i:=λi hi=>by
  obtain⟨k',p',hk',hp',rfl⟩:=Br hi;unfold qV;cases hv':(v.ps k').live with
  |false=>
   have hne:¬(64*k'+p'=64*k+p):=λe=>by
    have:k'=k:=by omega
    rw[this,hv] at hv';cases hv'
   rw[if_neg hne,xQ (v:=eT v k p K N) hv' hp',xQ hv' hp']
  |true=>
   rw[Jh (v:=eT v k p K N) hv' hp',Jh hv' hp'];by_cases e:64*k'+p'=64*k+p
   ·obtain rfl:k'=k:=by omega
    obtain rfl:p'=p:=by omega
    rw[if_pos rfl];exact Prod.ext h6 h7
   ·rw[if_neg e]
    obtain⟨e1,e2⟩:=h5 k' hk' hv' p' hp' (by omega);exact Prod.ext e1 e2
 refine⟨h1,h2,h3,h4,hE,aAc rfl h4,λc hc=> ?_⟩;have hc':c∈v.tl/\(!Ke k p c)=true:=List.mem_filter.1 hc;obtain⟨i,hi,c1,c2,c3,c4⟩:=hL c hc'.1;refine⟨i,hi,c1,c2,c3,?_⟩;rw[hE i hi,jB _ _ ?_,c4];rintro rfl;have h8:=hc'.2;unfold Ke at h8;rw[c1,c2,show(64*k+p)/64=k by omega,show(64*k+p)%64=p by omega] at h8;simp at h8
theorem Gn {v:Vm} (hT:zN v.zs v.ps) (hL:Tlo v) {k:Nat} (hk:k<4) (hv:(v.ps k).live=true) {p:Nat} (hp:p<64) (hf:aG v.zs (v.ps k).root p=0) {K N:Int} (hP:cB K N=0) {f:Nat} (hn:∀t,t<36->aI v t≠f) {n:Nat} (hb:n<64):
 (eT v k p K N).zs.getD (((f:Int)*64).toNat+n) 0=v.zs.getD (((f:Int)*64).toNat+n) 0:=by
 obtain⟨_,h2,_⟩:=zT hT hL hk hv hp hf hP;exact h2.byte (λe=>hn (9*k+1+p/8) (by omega) (by rw[pW hv hp,if_pos hf];exact e.symm)) (by omega) hb
theorem aAr (may used:List Bool) (h n:Nat):∀k,(pK may used h n k).length=used.length
 |0=>rfl
 |k+1=>by unfold pK;split<;>simp[aAr may used h n k]
theorem aEj {hd:Int} {may us:List Bool} (hl:may.length=64) (h:jL hd may us=0):∃F:Nat,Bc hd may us=F/\F<64/\may.getD F false=true/\0<=nS hd may us/\nS hd may us<64/\(yH hd may us).length=us.length:=by
 obtain⟨h1,h2,h3,h4⟩:=Za.1 h;have hh:hd.toNat<64:=by omega
 have hm:=aEs (h:=hd.toNat) (n:=64) hh hl h4;obtain⟨s1,s2⟩:=aBE (used:=us) hh hm;have hv:vY may us hd.toNat 64<64:=aKj _ (by omega);refine⟨vY may us hd.toNat 64,by unfold Bc;rw[if_pos h,hl],hv,s1,?_,?_,?_⟩
 ·unfold nS;rw[if_pos h,hl];omega
 ·unfold nS;rw[if_pos h,hl];omega
 ·unfold yH;rw[if_pos h];exact aAr _ _ _ _ _
theorem aIF {hd:Int} {may us:List Bool} (hl:may.length=64) (hu:us.length=64) (h0:0<=hd) (h1:hd<64) {f:Nat} (hf:may.getD f false=true):jL hd may us=0:=by
 refine Za.2 ⟨by omega,h0,by omega,?_⟩;by_cases h:firstT may<may.length
 ·exact h
 ·have h2:=P5 may
  by_cases h3:f<may.length
  ·rw[wE may f (by omega)] at hf;cases hf
  ·simp[List.getD,List.getElem?_eq_none (show may.length<=f by omega)] at hf
theorem aCe (v:Vm):(dR v).length=64:=by simp[dR]
theorem aG9 (v:Vm) {f:Nat} (hf:f<64):(dR v).getD f false=(decide (0<v.rf f)&& !v.fx f):=by
 unfold dR;simp[List.getD,hf]
theorem Aj (zs:List Int) (f:Int):(tL zs f).length=64:=by simp[tL]
theorem Xg (zs:List Int) (f:Int) {n:Nat} (hn:n<64):(tL zs f).getD n 0=zs.getD ((f*64).toNat+n) 0:=by
 simp[tL,List.getD,hn]
theorem aAE {zs:List Int} (hb:Bytes zs) (f:Int):Bytes (tL zs f):=λi=>by
 by_cases h:i<64
 ·rw[Xg zs f h];exact hb _
 ·rw[Uq _ _ (by rw[Aj];omega)];omega
theorem Uz (ts:List Int) (f:Int):(jS ts f).length=4:=by simp[jS]
theorem aCG (ts:List Int) (f:Int) {n:Nat} (hn:n<4):(jS ts f).getD n 0=dZ ts (f*4+(n:Int)):=by
 simp[jS,List.getD,hn]
theorem Uy {ts:List Int} (hb:Bytes ts) (f:Int):aBd (jS ts f):=λi=>by
 by_cases h:i<4
 ·rw[aCG ts f h];exact aIb hb _
 ·rw[Uq _ _ (by rw[Uz];omega)];omega
theorem aKT {v:Vm} (hF:Fmt v) (h0:∀s,s<64->0<=eB v s) {b t:List Int} (hb:b.length=64) (ht:t.length=4) {r:Int} (hr:1<=r) (hr4:r<=4) (hs:∃s,s<64/\eB v s=0):
 uA v.dv b t r=0/\qR v.dv b t r<64/\eB v (qR v.dv b t r)=0/\tZ v.dv b t r=v.dv.set (qR v.dv b t r) ⟨r,b,t⟩:=by
 obtain⟨s,hs,hs0⟩:=hs;have hd:=hF.dl;have hlt:v.dv.findIdx mG<v.dv.length:=by
  refine List.findIdx_lt_length_of_exists ⟨v.dv[s]'(by omega),List.getElem_mem _,?_⟩;unfold eB sl at hs0;rw[show v.dv.getD s default=v.dv[s]'(by omega) by simp[List.getD,show s<v.dv.length by omega]] at hs0;unfold mG;simp;omega
 have hE:uA v.dv b t r=0:=by
  unfold uA;rw[if_neg (by omega),if_pos hlt]
 refine⟨hE,?_,?_,?_⟩
 ·unfold qR;rw[if_pos hE];omega
 ·have hx:=List.findIdx_getElem (w:=hlt)
  have h1:eB v (v.dv.findIdx mG)<1:=by
   unfold eB sl;rw[show v.dv.getD (v.dv.findIdx mG) default=v.dv[v.dv.findIdx mG] by simp[List.getD,hlt]];have hy:mG v.dv[v.dv.findIdx mG]=true:=hx;generalize v.dv[v.dv.findIdx mG]=z at hy⊢;unfold mG at hy;simpa using hy
  have h2:=h0 (v.dv.findIdx mG) (by omega);unfold qR;rw[if_pos hE];omega
 ·unfold tZ qR;rw[if_pos hE,if_pos hE]
theorem aBH {v:Vm} {v':Vm} {s:Nat} {z:gT} (hd:v.dv.length=64) (hs:s<64) (h:v'.dv=v.dv.set s z) (q:Nat):sl v' q=if q=s then z else sl v q:=by
 unfold sl;rw[h];by_cases e:q=s
 ·subst e;simp[List.getD,show q<v.dv.length by omega]
 ·rw[if_neg e];simp[List.getD,Ne.symm e]
structure Stp (v u:Vm) (F S n:Nat):Prop where
 ps:u.ps=v.ps
 ts:u.ts=v.ts
 rf:u.rf=v.rf
 fx:u.fx=v.fx
 dv:u.dv=v.dv
 us:u.us=v.us
 hd:u.hd=v.hd
 T:zN u.zs v.ps
 L:Tlo u
 en:∀i,i<256->aA u i=if i<n then mJ (aA v) F S i else aA v i
 lf:∀k,k<4->(v.ps k).live=true->∀p:Nat,p<64->aG u.zs (v.ps k).root p=aG v.zs (v.ps k).root p/\aK u.zs (v.ps k).root p=aK v.zs (v.ps k).root p
 tab:∀t,t<36->aI u t=aI v t
 byte:∀f:Nat,f<64->(∀t,t<36->aI v t≠f)->∀n,n<64->u.zs.getD (((f:Int)*64).toNat+n) 0=v.zs.getD (((f:Int)*64).toNat+n) 0
theorem Ie {v:Vm} {sr x y:Nat->Int} {W:List Nat} (hA:iH (aA v) (aI v) v.rf v.fx sr x y W) {k p:Nat} (hk:k<4) (hv:(v.ps k).live=true) (hp:p<64) (he:(aA v (64*k+p)).1≠0):aG v.zs (v.ps k).root p=0:=by
 have:=hA.lf (64*k+p) (by omega) he;rw[show(64*k+p)/64=k by omega,show(64*k+p)%64=p by omega,pW hv hp] at this;by_cases e:aG v.zs (v.ps k).root p=0
 ·exact e
 ·rw[if_neg e] at this;exact absurd rfl this
theorem aBC {v u:Vm} {sr x y:Nat->Int} {W:List Nat} (hA:iH (aA v) (aI v) v.rf v.fx sr x y W) {F S n:Nat} (hS:S<64) (h:Stp v u F S n) (hn:n<256):
 Stp v (oQ F S u n) F S (n+1)/\(∀hl:(v.ps (n/64)).live=true,lI u.zs (v.ps (n/64)).root ((n%64:Nat):Int)=0/\(gF u (n/64) ((n%64:Nat):Int)=(1,(F:Int))->nO u.zs (v.ps (n/64)).root ((n%64:Nat):Int) 2 S=0)):=by
 obtain⟨k,p,hk,hp,rfl⟩:=Br hn;have e1:(64*k+p)/64=k:=by omega
 have e2:(64*k+p)%64=p:=by omega
 rw[e1,e2];have hP:cB 2 (S:Int)=0:=Bp (by omega) (by omega) (by omega) (by omega) (by omega);cases hv:(v.ps k).live with
 |false=>
  refine⟨?_,λhl=>by cases hl⟩;have e3:oQ F S u (64*k+p)=u:=by unfold oQ;rw[e1,h.ps,hv,if_neg (by simp)]
  rw[e3];refine⟨h.ps,h.ts,h.rf,h.fx,h.dv,h.us,h.hd,h.T,h.L,λi hi=> ?_,h.lf,h.tab,h.byte⟩;rw[h.en i hi];by_cases e4:i=64*k+p
  ·subst e4
   rw[if_neg (by omega),if_pos (by omega)];unfold mJ;rw[xQ hv hp,if_neg (by simp)]
  ·by_cases e5:i<64*k+p
   ·rw[if_pos e5,if_pos (by omega)]
   ·rw[if_neg e5,if_neg (by omega)]
 |true=>
  have hvu:(u.ps k).live=true:=by rw[h.ps];exact hv
  have hent:gF u k (p:Int)=aA v (64*k+p):=by
   have h1:=h.en (64*k+p) hn;rw[if_neg (by omega),Jh hvu hp] at h1;exact h1
  have hg:=h.T.get k hk hv p hp;by_cases e4:aA v (64*k+p)=(1,(F:Int))
  ·have hl:aG u.zs (u.ps k).root p=0:=by rw[h.ps,(h.lf k hk hv p hp).1];exact Ie hA hk hv hp (by rw[e4];simp)
   have e3:oQ F S u (64*k+p)=eT u k p 2 S:=by
    unfold oQ;rw[e1,e2,hvu,hent,if_pos ⟨rfl,e4⟩]
   have hTu:zN u.zs u.ps:=by rw[h.ps];exact h.T
   obtain⟨t1,t2,t3,t4,t5,t6,t7⟩:=zT hTu h.L hk hvu hp hl hP;rw[h.ps] at t1 t3 t4;refine⟨?_,λ_=>⟨hg,λ_=>t1⟩⟩;rw[e3];refine⟨h.ps,h.ts,h.rf,h.fx,h.dv,h.us,h.hd,t3,t7,λi hi=> ?_,λk' hk' hv' p' hp'=> ?_,λt ht=>(t6 t ht).trans (h.tab t ht),λf hf hnt n hn'=> ?_⟩
   ·rw[t5 i hi]
    unfold qV;by_cases e5:i=64*k+p
    ·subst e5
     rw[if_pos rfl,if_pos (by omega)];unfold mJ;rw[if_pos e4]
    ·rw[if_neg e5,h.en i hi]
     by_cases e6:i<64*k+p
     ·rw[if_pos e6,if_pos (by omega)]
     ·rw[if_neg e6,if_neg (by omega)]
   ·obtain⟨q1,q2⟩:=t4 k' hk' hv' p' hp'
    obtain⟨q3,q4⟩:=h.lf k' hk' hv' p' hp';exact⟨q1.trans q3,q2.trans q4⟩
   ·rw[Gn hTu h.L hk hvu hp hl hP (λt ht=>by rw[h.tab t ht];exact hnt t ht) hn']
    exact h.byte f hf hnt n hn'
  ·have e3:oQ F S u (64*k+p)=u:=by
    unfold oQ;rw[e1,e2,hvu,hent,if_neg (λhh=>e4 hh.2)]
   rw[e3];refine⟨⟨h.ps,h.ts,h.rf,h.fx,h.dv,h.us,h.hd,h.T,h.L,λi hi=> ?_,h.lf,h.tab,h.byte⟩,λ_=>⟨hg,λhh=>absurd (hent.symm.trans hh) e4⟩⟩;rw[h.en i hi];by_cases e4':i=64*k+p
   ·subst e4'
    rw[if_neg (by omega),if_pos (by omega)];unfold mJ;rw[if_neg e4]
   ·by_cases e5:i<64*k+p
    ·rw[if_pos e5,if_pos (by omega)]
    ·rw[if_neg e5,if_neg (by omega)]
theorem aD4 {v:Vm} {sr x y:Nat->Int} {W:List Nat} (hA:iH (aA v) (aI v) v.rf v.fx sr x y W) (hT:zN v.zs v.ps) (hL:Tlo v) {F S:Nat} (hS:S<64):∀n,n<=256->Stp v (iJ F S v n) F S n
 |0,_=>⟨rfl,rfl,rfl,rfl,rfl,rfl,rfl,hT,hL,λi hi=>by rw[if_neg (by omega)];rfl,λ_ _ _ _ _=>⟨rfl,rfl⟩,λ_ _=>rfl,λ_ _ _ _ _=>rfl⟩
 |n+1,hn=>by rw[Av];exact(aBC hA hS (aD4 hA hT hL hS n (by omega)) (by omega)).1
structure Evi (v:Vm) (F S:Nat):Prop where
 e:jL v.hd (dR v) v.us=0
 f:wF v=F
 fl:F<64
 s:evS v=S
 sl:S<64
 fx:v.fx F=false
 r1:1<=v.rf F
 r4:v.rf F<=4
 sp:uA v.dv (tL v.zs (wF v)) (jS v.ts (wF v)) (v.rf (wF v).toNat)=0
 st:∀n,n<256->Stp (kT v) (iJ F S (kT v) n) F S n/\(∀hl:(v.ps (n/64)).live=true,lI (iJ F S (kT v) n).zs (v.ps (n/64)).root ((n%64:Nat):Int)=0/\(gF (iJ F S (kT v) n) (n/64) ((n%64:Nat):Int)=(1,(F:Int))->nO (iJ F S (kT v) n).zs (v.ps (n/64)).root ((n%64:Nat):Int) 2 S=0))
 sz:Stp (kT v) (iJ F S (kT v) 256) F S 256
 eq:bE v=Vs (iJ F S (kT v) 256) F
theorem aCX {v:Vm} {x y:Nat->Int} {W:List Nat} (h:dX v x y W) (hx:∀f,f<64->x f≠0->v.fx f=true) (hb:zL v=true):
 ∃F S,Evi v F S/\dX (bE v) x y W/\Kee v (bE v)/\dL (bE v)=dL v/\∀f,f<64->(bE v).rf f=if f=F then 0 else v.rf f:=by
 have hE:jL v.hd (dR v) v.us=0:=by unfold zL at hb;simpa using hb
 obtain⟨F,f1,f2,f3,f4,f5,f6⟩:=aEj (aCe v) hE;rw[aG9 v f2] at f3;simp only[Bool.and_eq_true,decide_eq_true_eq,Bool.not_eq_true'] at f3;obtain⟨r1,fx0⟩:=f3;have eF:wF v=F:=f1;have hx0:x F=0:=by
  by_cases e:x F=0
  ·exact e
  ·have:=hx F f2 e;rw[fx0] at this;cases this
 have hnt:=h.A.aFe (.inl fx0);have hc:=h.A.fr F f2 hnt;have hc4:=h.A.four (z:=(1,(F:Int))) (by simp);have hroom:=h.A.room (f:=F) (by omega);have hs0:∀s,s<64->0<=eB v s:=λs hs=>by
  have a:=h.A.sy s hs;have b:=h.A.y0 s;have c:=oJ (aA v) (2,(s:Nat));omega
 obtain⟨p1,p2,p3,p4⟩:=aKT h.F hs0 (Aj v.zs F) (Uz v.ts F) (show 1<=v.rf F by omega) (by omega) hroom;obtain⟨S,hS⟩:∃S,S=qR v.dv (tL v.zs F) (jS v.ts F) (v.rf F):=⟨_,rfl⟩;rw[<-hS] at p2 p3 p4;have eS:evS v=S:=by unfold evS;rw[eF,Int.toNat_natCast,<-hS]
 have hdv:(kT v).dv=v.dv.set S ⟨v.rf F,tL v.zs F,jS v.ts F⟩:=by
  show tZ v.dv (tL v.zs (wF v)) (jS v.ts (wF v)) (v.rf (wF v).toNat)=_;rw[eF,Int.toNat_natCast,p4]
 have aOB:=aBH (v:=v) (v':=kT v) h.F.dl p2 hdv;have hA1:iH (aA (kT v)) (aI (kT v)) (kT v).rf (kT v).fx (eB v) x y W:=h.A;have hTs:zN (kT v).zs (kT v).ps:=h.T;have hst:=aD4 hA1 hTs h.L (F:=F) (S:=S) p2;have heq:bE v=Vs (iJ F S (kT v) 256) F:=by
  unfold bE;rw[if_neg (not_not_intro hE),eF,eS,Int.toNat_natCast]
 have hu:=hst 256 (nR _);obtain⟨u,hu0⟩:∃u,u=iJ F S (kT v) 256:=⟨_,rfl⟩;have heq':=heq;rw[<-hu0] at hu heq';have hen:∀i,i<256->aA (bE v) i=mJ (aA v) F S i:=λi hi=>by
  have:=hu.en i hi;rw[if_pos hi] at this;rw[heq'];exact this
 have hrf:∀f,(bE v).rf f=if f=F then 0 else v.rf f:=λf=>by
  rw[heq'];show aO u.rf F 0 f=_;rw[hu.rf];rfl
 have hsl:∀q,sl (bE v) q=if q=S then⟨v.rf F,tL v.zs F,jS v.ts F⟩ else sl v q:=λq=>by
  rw[heq',<-aOB q];show u.dv.getD q default=(kT v).dv.getD q default;rw[hu.dv]
 have htab:∀t,t<36->aI (bE v) t=aI v t:=λt ht=>by rw[heq'];exact hu.tab t ht
 have hfx:(bE v).fx=v.fx:=by rw[heq'];exact hu.fx
 have hts:(bE v).ts=v.ts:=by rw[heq'];exact hu.ts
 have hps:(bE v).ps=v.ps:=by rw[heq'];exact hu.ps
 have hzs:(bE v).zs=u.zs:=by rw[heq'];rfl
 have Gu:∀q,eB (bE v) q=if q=S then v.rf F else eB v q:=λq=>by
  unfold eB;rw[hsl q];split<;>rfl
 have aNg:dE (aA v) (2,(S:Int))=0:=by
  have a:=h.A.sy S p2;have b:=h.A.y0 S;have c:=oJ (aA v) (2,(S:Nat));omega
 have hbyte:∀f:Nat,f<64->(∀t,t<36->aI v t≠f)->∀n,n<64->(bE v).zs.getD (((f:Int)*64).toNat+n) 0=v.zs.getD (((f:Int)*64).toNat+n) 0:=λf hf hn n hn'=>by rw[hzs];exact hu.byte f hf hn n hn'
 have aFB:∀i,i<256->(aA v i).1=1\/(aA v i).1=2->∃N:Nat,N<64/\(aA v i).2=N:=λi hi _=>by
  have:=nH (h.A.er i hi);exact⟨(aA v i).2.toNat,by omega,by omega⟩
 refine⟨F,S,⟨hE,eF,f2,eS,p2,fx0,by omega,by omega,by rw[eF,Int.toNat_natCast];exact p1,λn hn=>⟨hst n (by omega),(aBC hA1 p2 (hst n (by omega)) hn).2⟩,hst 256 (nR _),heq⟩,⟨?_,?_,?_,?_⟩,?_,?_,λf _=>hrf f⟩
 ·rw[hps,hzs];exact hu.T
 ·refine⟨by rw[hts];exact h.F.tl,by rw[hts];exact h.F.tb,?_,λs hs hpos=> ?_,?_,?_,?_⟩
  ·rw[heq'];show u.dv.length=64;rw[hu.dv,hdv,List.length_set];exact h.F.dl
  ·rw[Gu s] at hpos
   rw[hsl s];by_cases e:s=S
   ·rw[if_pos e]
    exact⟨Aj _ _,Uz _ _,aAE h.T.zb _,Uy h.F.tb _⟩
   ·rw[if_neg e] at hpos⊢
    exact h.F.ds s hs hpos
  ·rw[heq'];show(u.us.set F false).length=64
   rw[List.length_set,hu.us];show(yH v.hd (dR v) v.us).length=64;rw[f6];exact h.F.ul
  ·rw[heq'];show 0<=u.hd;rw[hu.hd];exact f4
  ·rw[heq'];show u.hd<64;rw[hu.hd];exact f5
 ·exact h.A.aFM f2 p2 fx0 hx0 p3 hen htab (λf _=>hrf f) (λf _=>by rw[hfx]) (λq _=>Gu q)
 ·rw[heq']
  intro c hc;obtain⟨i,hi,q⟩:=hu.L c hc;exact⟨i,hi,q⟩
 ·refine⟨hps,hfx,λi hi n hn=> ?_,λi hi g hg=> ?_,λi hi=> ?_,λi hi h1 h2=> ?_,λi hi h1=> ?_,λf hf h1=> ?_,hbyte,hts,htab,λk hk hv p hp=>by rw[hzs];exact hu.lf k hk hv p hp⟩
  ·unfold cb
   rw[hen i hi];unfold mJ;by_cases e:aA v i=(1,(F:Int))
   ·rw[if_pos e,e]
    simp only[show¬((2:Int)=1) by decide,if_false,if_true,Int.toNat_natCast];rw[hsl S,if_pos rfl];exact Xg _ _ hn
   ·rw[if_neg e]
    by_cases e1:(aA v i).1=1
    ·obtain⟨N,hN,Bw⟩:=aFB i hi (.inl e1)
     rw[if_pos e1,if_pos e1,Bw];exact hbyte N hN (λt ht hh=>h.A.et i hi e1 t ht (by rw[hh,Bw])) n hn
    ·rw[if_neg e1,if_neg e1]
     by_cases e2:(aA v i).1=2
     ·obtain⟨N,hN,Bw⟩:=aFB i hi (.inr e2)
      rw[if_pos e2,if_pos e2,Bw,Int.toNat_natCast,hsl N,if_neg];rintro rfl;have:=iW hi (show aA v i=(2,(N:Int)) from Prod.ext e2 Bw);omega
     ·rw[if_neg e2,if_neg e2]
  ·unfold ct
   rw[hen i hi];unfold mJ;by_cases e:aA v i=(1,(F:Int))
   ·rw[if_pos e,e]
    simp only[show¬((2:Int)=1) by decide,if_false,if_true,Int.toNat_natCast];rw[hsl S,if_pos rfl];exact aCG _ _ hg
   ·rw[if_neg e]
    by_cases e1:(aA v i).1=1
    ·rw[if_pos e1,if_pos e1,hts]
    ·rw[if_neg e1,if_neg e1]
     by_cases e2:(aA v i).1=2
     ·obtain⟨N,hN,Bw⟩:=aFB i hi (.inr e2)
      rw[if_pos e2,if_pos e2,Bw,Int.toNat_natCast,hsl N,if_neg];rintro rfl;have:=iW hi (show aA v i=(2,(N:Int)) from Prod.ext e2 Bw);omega
     ·rw[if_neg e2,if_neg e2]
  ·rw[hen i hi]
   unfold mJ;split
   ·rename_i e;rw[e];simp
   ·exact Iff.rfl
  ·rw[hen i hi]
   unfold mJ;rw[if_neg];intro e;rw[e] at h2;simp only[Int.toNat_natCast] at h2;rw[fx0] at h2;cases h2
  ·rw[hen i hi]
   unfold mJ;rw[if_neg];intro e;rw[e] at h1;cases h1
  ·rw[hrf f,if_neg]
   rintro rfl;rw[fx0] at h1;cases h1
 ·unfold dL
  have a1:=lW (f:=λf=>min ((bE v).rf f) 1) (g:=λf=>min (v.rf f) 1) f2 (λi _ hne=>by rw[hrf i,if_neg hne]);have a2:=lW (f:=λs=>min (eB (bE v) s) 1) (g:=λs=>min (eB v s) 1) p2 (λi _ hne=>by rw[Gu i,if_neg hne]);simp only[hrf F,Gu S,if_true,p3] at a1 a2;omega
end Go.Proofs.YtoogfmbojlpjaaaGreat
