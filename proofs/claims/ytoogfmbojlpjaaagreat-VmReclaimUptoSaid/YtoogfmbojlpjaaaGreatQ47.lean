/- Lemmas. -/
import Derived.Test.YtoogfmbojlpjaaaGreatQ43
import Derived.Test.YtoogfmbojlpjaaaGreatQ46
import Derived.Test.YtoogfmbojlpjaaaGreatQ12
import Derived.Test.YtoogfmbojlpjaaaGreatQ28
import Derived.Test.YtoogfmbojlpjaaaGreatQ30
import Derived.Test.YtoogfmbojlpjaaaGreatQ22
import Derived.Test.YtoogfmbojlpjaaaGreatQA
set_option maxRecDepth 100000
set_option maxHeartbeats 32000000
set_option linter.unusedVariables false
set_option linter.unusedSimpArgs false
namespace Go.Proofs.YtoogfmbojlpjaaaGreat
open Go.ChangeShapes Go.WideShapes Go.ChangeAt Go.RowKit Go.Joins Go.Sort
theorem aJK {cs:Array Value} (h:cs.all (·.oneCell')=true) (i:Nat) {u:Value} (hu:u.oneCell'=true):(cs.setIfInBounds i u).all (·.oneCell')=true:=by
 rw[Array.all_eq_true_iff_forall_mem] at h⊢;intro x hx;rcases Array.mem_or_eq_of_mem_setIfInBounds hx with hx|rfl
 ·exact h x hx
 ·exact hu
def Sp.mav (k B:Nat) (l:List aC) (a:bX):Sp:=⟨k,λv=>∃u,v=.tuple #[u,.agg (nA a)],λv w=>∃u,v=.tuple #[u,.agg (nA a)]/\Os fR 6 99 w B u l,⟨_,.slice none 0 0,rfl⟩,λv w w' h hb=>by
 obtain⟨u,e,ho⟩:=h
 exact⟨u,e,ho.below hb (nR _)⟩⟩
theorem aH4 {l:List aC} {K:aJ} {all:Int} {o:aL} (h:(wW l K all o).2.err=0):(wW l K all o).1.length<=64:=by
 obtain⟨e1,e2,_⟩:=map_ok h;rw[e1];exact mE (Zp e2).1
theorem aEU {l:List aC} {K:aJ} {o:aL} (hk:o.kind=2\/o.kind=3\/o.kind=4) (h:(iK l K o).2.err=0):(iK l K o).1.length<=64:=by
 rcases(aBK hk h).2 with⟨_,e1,e2,_⟩|⟨_,_,_,e1,e2,_⟩|⟨_,e1,e2⟩
 ·rw[e2];exact mE (Rs e1).1
 ·rw[e2];exact mE (zS e1).1
 ·rw[e2];exact mE (zS e1).1
def vZ (v:Vm) (o:aL):List aC×bX:=if o.kind=1 then wW (v.ps o.proc.toNat).rg (v.ps o.proc.toNat).ks (cK v) o else iK (v.ps o.proc.toNat).rg (v.ps o.proc.toNat).ks o
def Bn (v:Vm) (k:Nat) (l:List aC):Vm:= { v with ps:=fJ v.ps k { v.ps k with rg:=l } }
def Eu (v:Vm) (k:Nat) (K:aJ):Vm:= { v with ps:=fJ v.ps k { v.ps k with ks:=K } }
structure aBe (v:Vm) (o:aL):Prop where
 r:∀k,k<4->bF (v.ps k).rg=true
 m0:0<=cK v
 m1:cK v<=256
 e:(vZ v o).2.err=0->∀n:Nat,n<64->(dF (vZ v o).1 n).isSome=false->Q3 (iA (Bn v o.proc.toNat (vZ v o).1) o.proc.toNat (vZ v o).1 n) o.proc.toNat n
theorem Rj {w w3:World} {N m r t u c g:Nat} {Z Z':Nat->Prop} {cs z:Array Value} {U:Vm} {a:bX} {x:Vm×bX} (hM:Mo w3 N Z' m r t u c cs U) (hZ:∀b,Z b->Z' b) (hg':Z' g) (hX:Bx w3 g 35 z) (hF:aN N w w3) (hN:N<=w.heap.size) (hg:w.heap.size<=g) (hx:x=(U,a)):Ga N Z m r t x w (.returned a.v) (w3.setRow g (nA a)):=by
 obtain⟨q1,q2⟩:=Re hM hg' hX hF hN hg (nA a);rw[hx];exact⟨rfl,⟨u,c,cs,q1.less hZ⟩,q2⟩
theorem Mo.aKh {w:World} {N m r t u c:Nat} {Z:Nat->Prop} {cs:Array Value} {v:Vm} (h:Mo w N Z m r t u c cs v) {k:Nat} (hk:k<4) {x:Value} {l:List aC} (hx:Rt w x l):
 Mo (w.setCell ⟨m,69+k*11+2,none⟩ x) N Z m r t u c (cs.setIfInBounds (69+k*11+2) x) (Bn v k l):=by
 have hcs:=h.V.size;have hb:∀b,b<w.heap.size->b≠m->(w.setCell ⟨m,69+k*11+2,none⟩ x).heap[b]? =w.heap[b]? :=λb _ hne=>gW w m _ x b hne;have hsz:w.heap.size<=(w.setCell ⟨m,69+k*11+2,none⟩ x).heap.size:=by simp[World.setCell]
 have hx3:Rt (w.setCell ⟨m,69+k*11+2,none⟩ x) x l:=hx.keep λb cur hx=>(hb b hx.lt (gP hx h.X (by decide))).trans hx;have hne:∀j,j≠69+k*11+2->(cs.setIfInBounds (69+k*11+2) x)[j]? =cs[j]? :=λj hj=>Array.getElem?_setIfInBounds_ne (by omega);have V:=h.V' hb hsz;obtain⟨pl,pr,pg,pk⟩:=v.ps k;refine h.put (v':=Bn v k l) hsz (yV h.X) hb rfl rfl rfl (V.ps_ (k:=k) (p:= { v.ps k with rg:=l }) (by rw[Array.size_setIfInBounds];exact hcs) (aJK h.V.one _ ?_) (λj hj=>hne j (by omega)) hk (λj hj=>hne j (by omega)) ((hne _ (by omega)).trans (h.V.live k hk)) ((hne _ (by omega)).trans (h.V.root k hk)) ⟨x,?_,hx3⟩ λi y hy=> ?_)
 ·obtain⟨A,n,c,rfl,_⟩:=hx;rfl
 ·exact Array.getElem?_setIfInBounds_self_of_lt (by rw[hcs];omega)
 ·rw[hne _ (by omega)];exact h.V.ks k hk i y hy
theorem aET {w:World} {N m r t u c:Nat} {Z:Nat->Prop} {cs:Array Value} {v:Vm} (h:Mo w N Z m r t u c cs v) (o:aL) (ho:o.fits) (hp0:0<=o.proc) (Mh:o.proc<4) (hkd:o.kind=1) (hS:aBe v o):
 Calls Tryz.prog 39 #[.pointer (some ⟨m,0,none⟩),.agg (aZ o)] w (Ga N Z m r t (tC v o) w):=by
 obtain⟨k,hpk⟩:∃k:Nat,o.proc=k:=⟨o.proc.toNat,by omega⟩;have hk4:k<4:=by omega
 have hki:(k:Int)<4:=by omega
 have hk0:(0:Int)<=(k:Int):=by omega
 have hpn:o.proc.toNat=k:=by rw[hpk];rfl
 obtain⟨res,hres⟩:∃res,res=vZ v o:=⟨_,rfl⟩;have hr1:res=wW (v.ps k).rg (v.ps k).ks (cK v) o:=by rw[hres];unfold vZ;rw[if_pos hkd,hpn]
 have HR:Hid (tC v o=if res.2.err=0 then(kL (Bn v k res.1) k res.1,res.2) else(v,res.2)):=hZ (by rw[hres,<-hpn];rfl);have jN:Hid (res.2.err=0->res.1.length<=64):=hZ (by rw[hr1];exact λh=>aH4 h);have zQ:Hid (res.2.err=0->∀n:Nat,n<64->(dF res.1 n).isSome=false->Q3 (iA (Bn v k res.1) k res.1 n) k n):=hZ (by rw[hres,<-hpn];exact hS.e);obtain⟨vx,hvx,hrt⟩:=h.V.rg k hk4;have aPn:=hZ hrt;have Qr:=hZ hvx;have Di:=hZ (h.V.ks k hk4);have HMP:=hZ (λ(W:World) (hM:Mo W N (λb=>Z b\/b=w.heap.size+1) m r t u c cs v)=>H9 hM hS.r);have Tg:Hid (∀(w':World),Below w.heap.size w w'->Calls Tryz.prog 53 #[vx,.agg (kA (v.ps k).ks),.int .i64 (cK v),.agg (aZ o)] w' λe w''=>∃u,e=.returned (.tuple #[u,.agg (nA res.2)])/\Os fR 6 99 w'' w'.heap.size u res.1/\Below w'.heap.size w' w''):=hZ (by rw[hr1];exact λw' hb=>(aLq (hrt.rv.below hb) (hS.r k hk4) (v.ps k).ks (cK v) hS.m0 hS.m1 o ho).mono λe w2 h=>h);clear hr1 hres hvx hrt hS;have hW1:Below w.heap.size w ((w.alloc (.cells (aZ o) 26)).alloc (.cells #[.int .i64 0,.int .i64 0,.int .i64 0,.int .i64 0] 35)):=(aD _ _).alloc (by simp) _;have qZ:Bx ((w.alloc (.cells (aZ o) 26)).alloc (.cells #[.int .i64 0,.int .i64 0,.int .i64 0,.int .i64 0] 35)) w.heap.size 26 (aZ o):=(Bx.new _ _ _).below (aD _ _);have hA1:Bx ((w.alloc (.cells (aZ o) 26)).alloc (.cells #[.int .i64 0,.int .i64 0,.int .i64 0,.int .i64 0] 35)) (w.heap.size+1) 35 #[.int .i64 0,.int .i64 0,.int .i64 0,.int .i64 0]:=by
  have:=Bx.new (w.alloc (.cells (aZ o) 26)) 35 #[.int .i64 0,.int .i64 0,.int .i64 0,.int .i64 0];rwa[World.size_alloc] at this
 obtain⟨w1,hw1⟩:∃w1,w1=((w.alloc (.cells (aZ o) 26)).alloc (.cells #[.int .i64 0,.int .i64 0,.int .i64 0,.int .i64 0] 35)):=⟨_,rfl⟩;have HW1:=hZ hw1;rw[<-hw1] at hW1 qZ hA1;have K1:=hZ hW1;have O1:=hZ qZ;have A1:=hZ hA1;have M1:=hZ (h.fresh (g:=w.heap.size+1) hW1 (by omega) hA1.lt);have F1:=hZ (aN.of h.hN hW1);have HN:=hZ h.hN;have OP:Hid ((aZ o)[1]? =some (.int .i64 k)):=hZ (by rw[<-hpk];rfl);have OK:Hid ((aZ o)[0]? =some (.int .i64 o.kind)):=hZ rfl;have mY:Hid ((aZ o).size=12):=hZ rfl;clear h hw1 hW1 qZ hA1 hp0 Mh hpk hpn;obtain⟨rs,hrs⟩:∃rs,rs=tC v o:=⟨_,rfl⟩;rw[<-hrs] at HR⊢;clear hrs;obtain⟨kd,aCu⟩:∃kd,kd=o.kind:=⟨_,rfl⟩;rw[<-aCu] at OK hkd;clear aCu;obtain⟨oA,rU⟩:∃oA,oA=aZ o:=⟨_,rfl⟩;rw[<-rU] at HW1 O1 OP OK mY Tg⊢;clear rU ho;obtain⟨KK,hKK⟩:∃KK,KK=(v.ps k).ks:=⟨_,rfl⟩;rw[<-hKK] at Tg Di;clear hKK;obtain⟨rl,na⟩:=res;simp only at Tg HR jN zQ;have NA0:Hid ((nA na)[0]? =some (.int .i64 na.err)):=hZ rfl;have Fs:Hid ((nA na).size=4):=hZ rfl;obtain⟨mp,hmp⟩:∃mp,mp=cK v:=⟨_,rfl⟩;rw[<-hmp] at Tg HMP;clear hmp;subst hkd
 all_goals
  go_enter Tryz.func39,Tryz.ntmps39;go_upto_region 1 with fail
  rw[<-HW1.out];have o1:w1.cell? ⟨w.heap.size,1,none⟩=some (.int .i64 (k:Int)):=by rw[O1.out.cell];exact OP.out
  have l1:w.heap.size<w1.heap.size:=O1.out.lt;have lm:=M1.out.size;have gc:∀(d:Nat) (os:Array Obj) (b o:Nat),b<w1.heap.size->(grow (redrawn w1 d) os).cell? ⟨b,o,none⟩=w1.cell? ⟨b,o,none⟩:=λd os b o h=>(below_regrown _ d os).cell (p:=⟨b,o,none⟩) h;refine fK [] (by kernel_rfl) (by kernel_rfl) ?_;intro V hV;iterate 3 (refine rq rfl rfl ?_;go_big_quiet_step(fail);refine wpQuiet_nil ?_)
  refine rn ⟨m,0,none⟩ (by kernel_rfl) rfl rfl ?_;go_big_quiet_step(fail);refine wpQuiet_nil ?_;iterate 3 (refine rq rfl rfl ?_;go_big_quiet_step(fail);refine wpQuiet_nil ?_)
  refine rend ?_;intro w3 hb3 hf;clear hf hV gc o1 l1 lm;have A3:=hZ (A1.out.below hb3);have O3:=hZ (O1.out.below hb3);have M3:=hZ (M1.out.below hb3);have F3:=hZ (F1.out.trans (aN.of M1.out.hN hb3));have K3:=hZ (K1.out.trans (hb3.mono K1.out.size));clear hb3;have c0:=(O3.out.cell 0).trans OK.out;have l0:w.heap.size<w3.heap.size:=O3.out.lt;go_upto_region 5 with fail
  have Cc:=aD w3 (.cells #[.int .i64 0,.int .i64 0,.int .i64 0,.int .i64 0] 35);have B6:Hid (Bx (w3.alloc (.cells #[.int .i64 0,.int .i64 0,.int .i64 0,.int .i64 0] 35)) w3.heap.size 35 #[.int .i64 0,.int .i64 0,.int .i64 0,.int .i64 0]):=hZ (Bx.new _ _ _);have LB:Hid (w.heap.size+1<w3.heap.size):=hZ A3.out.lt;obtain⟨tb,htb⟩:∃tb,tb=w3.heap.size:=⟨_,rfl⟩;have HTB:Hid (w3.heap.size<=tb):=hZ (by omega);rw[<-htb] at B6 LB⊢;obtain⟨w6,xO⟩:∃w6,w6=w3.alloc (.cells #[.int .i64 0,.int .i64 0,.int .i64 0,.int .i64 0] 35):=⟨_,rfl⟩;rw[<-xO] at B6 Cc⊢;have A6:=hZ (A3.out.below Cc);have O6:=hZ (O3.out.below Cc);have M6:=hZ (M3.out.fresh (g:=tb) Cc HTB.out B6.out.lt);have M6b:=hZ (M3.out.below Cc);have F6:=hZ (F3.out.trans (aN.of M3.out.hN Cc));have K6:=hZ (K3.out.trans (Cc.mono K3.out.size));have X6:=hZ (M6.out.X);clear xO htb Cc c0 l0;have cv:w6.cell? ⟨m,69+k*11+2,none⟩=some vx:=by rw[X6.out.cell];exact Qr.out
  have lv:m<w6.heap.size:=X6.out.lt;have gc:∀(d:Nat) (os:Array Obj) (b o:Nat),b<w6.heap.size->(grow (redrawn w6 d) os).cell? ⟨b,o,none⟩=w6.cell? ⟨b,o,none⟩:=λd os b o h=>(below_regrown _ d os).cell (p:=⟨b,o,none⟩) h;refine kD 16 [Sp.call 9 (.int .i64 mp),Sp.mav 11 w6.heap.size rl na] (by kernel_rfl) (by kernel_rfl) (by kernel_rfl) ?_;intro V hV;have e9:V 9=.int .i64 mp:=hV 9;obtain⟨ux,eC⟩:∃u,V 11=.tuple #[u,.agg (nA na)]:=hV 11;simp only[List.take_succ_cons,List.take_zero,List.drop_succ_cons,List.drop_zero];refine rq rfl rfl ?_;go_big_quiet_step(fail);refine wpQuiet_nil ?_;refine rn ⟨m,69+k*11,none⟩ (by kernel_rfl) rfl rfl ?_;go_big_quiet_step(fail);refine wpQuiet_nil ?_;iterate 3 (refine rq rfl rfl ?_;go_big_quiet_step(fail);refine wpQuiet_nil ?_)
  refine rn ⟨m,69+k*11,none⟩ (by kernel_rfl) rfl rfl ?_;go_big_quiet_step(fail);refine wpQuiet_nil ?_;refine rq rfl rfl ?_;go_big_quiet_step(fail);refine wpQuiet_nil ?_;refine rf (.agg (kA KK)) (by kernel_rfl) rfl (λw' hb hf=>nU rfl (lN Tryz.underlying40 rfl gX (X6.out.below hb) Di.out rfl)) ?_;go_big_quiet_step(fail);refine wpQuiet_nil ?_;refine rq rfl rfl ?_;go_big_quiet_step(fail);refine wpQuiet_nil ?_;refine mQ (Sp.call 9 (.int .i64 mp)) (by kernel_rfl) rfl (λw' hb hf=> ?_) ?_
  ·refine iB (f:=71) (args:= #[.pointer (some ⟨m,0,none⟩)]) ?_ (HMP.out w' (M6b.out.below hb))
   go_simp
  go_big_quiet_step(fail);refine wpQuiet_nil ?_;simp only[e9];refine rf (.agg oA) (by kernel_rfl) rfl (λw' hb hf=>nU rfl (lN Tryz.underlying26 rfl kY (O6.out.below hb) (Sub.all _) mY.out)) ?_;go_big_quiet_step(fail);refine wpQuiet_nil ?_;refine mQ (Sp.mav 11 w6.heap.size rl na) (by kernel_rfl) rfl (λw' hb hf=> ?_) ?_
  ·refine bY (f:=53) (args:= #[vx,.agg (kA KK),.int .i64 mp,.agg oA]) ?_ ((Tg.out w' (K6.out.trans (hb.mono K6.out.size))).mono ?_)
   ·go_simp
   ·rintro e w'' ⟨u0,rfl,ho,hb2⟩
    exact⟨_,rfl,hb2,⟨u0,rfl⟩,u0,rfl,ho.gD hb.size⟩
  go_big_quiet_step(fail);refine wpQuiet_nil ?_;simp only[eC];iterate 4 (refine rq rfl rfl ?_;go_big_quiet_step(fail);refine wpQuiet_nil ?_)
  refine rend ?_;clear eC;intro w7 eX hf;obtain⟨u2,hu2,HO⟩:∃u2,Value.tuple #[ux,.agg (nA na)]=.tuple #[u2,.agg (nA na)]/\Os fR 6 99 w7 w6.heap.size u2 rl:=hf _ (List.Mem.head _);obtain rfl:ux=u2:=by
   injection hu2 with h1;injection h1 with h1;injection h1 with h1 h2
  clear hf hV gc cv lv hu2 e9;have B7:=hZ (B6.out.below eX);have A7:=hZ (A6.out.below eX);have O7:=hZ (O6.out.below eX);have M7:=hZ (M6.out.below eX);have F7:=hZ (F6.out.trans (aN.of M6.out.hN eX));have LW:Hid (tb<w6.heap.size):=hZ B6.out.lt;clear eX;refine fM bN tb (nA na) rfl rfl B7.out rfl rfl (bI _) ?_;have B8:=hZ (B7.out.row (nA na));have A8:=hZ (A7.out.kQ (q:=tb) (by have:=LB.out;omega) (nA na));have O8:=hZ (O7.out.kQ (q:=tb) (by have:=LB.out;omega) (nA na));have MF8:=hZ (Re (w:=w) M7.out (.inr rfl) B7.out F7.out HN.out (by have:=LB.out;omega) (nA na));have M8:=hZ MF8.out.1;have F8:=hZ MF8.out.2;have Tf:=hZ (HO.kQ LW.out (nA na));obtain⟨w8,hw8⟩:∃w8,w8=w7.setRow tb (nA na):=⟨_,rfl⟩;rw[<-hw8] at B8 A8 O8 M8 F8 Tf⊢;clear hw8 HO MF8;have ca:w8.cell? ⟨tb,0,none⟩=some (.int .i64 na.err):=by rw[B8.out.cell];exact NA0.out
  have la:tb<w8.heap.size:=B8.out.lt;by_cases he:na.err=0
  ·have HR2:=hZ (HR.out.trans (if_pos he))
   rw[he] at ca;clear HR;have uK:=hZ (Rt.of Tf.out (jN.out he));have aJ3:=hZ (zQ.out he);obtain⟨Au,nu,cu,rfl,_⟩:=uK.out;have c9:w8.cell? ⟨m,69+k*11+2,none⟩=some vx:=by rw[M8.out.X.cell];exact Qr.out
   have f9:w8.frozen? ⟨m,69+k*11+2,none⟩=false:=M8.out.X.free _;have l9:m<w8.heap.size:=M8.out.X.lt;have M9:=hZ (M8.out.aKh hk4 uK.out);have F9:Hid (aN N w8 (w8.setCell ⟨m,69+k*11+2,none⟩ (.slice Au nu cu))):=hZ ⟨(Below.refl _ _).setCell (p:=⟨m,69+k*11+2,none⟩) M8.out.nm _,λb T cs' h1 h2 h3 hx=>(gW w8 m _ _ b (gP hx M8.out.X h1)).trans hx⟩;have B9:=hZ (B8.out.bM F9.out (by decide) (by decide) (by decide));have A9:=hZ (A8.out.bM F9.out (by decide) (by decide) (by decide));have O9:=hZ (O8.out.bM F9.out (by decide) (by decide) (by decide));have aDs:Hid (Rt (w8.setCell ⟨m,69+k*11+2,none⟩ (.slice Au nu cu)) (.slice Au nu cu) rl):=hZ (uK.out.keep λb cur hx=>F9.out.2 b _ cur (by decide) (by decide) (by decide) hx);go_upto_region 9 with fail
   obtain⟨w9,Mf⟩:∃w9,w9=w8.setCell ⟨m,69+k*11+2,none⟩ (.slice Au nu cu):=⟨_,rfl⟩;rw[<-Mf] at M9 F9 B9 A9 O9 aDs⊢;clear Mf c9 f9 l9 ca la;have o9:w9.cell? ⟨w.heap.size,1,none⟩=some (.int .i64 (k:Int)):=by rw[O9.out.cell];exact OP.out
   have l9:w.heap.size<w9.heap.size:=O9.out.lt;have iZ:=hZ (J4 M9.out hk4 aDs.out aJ3.out)
   go_wp2_with(first
    |(go_at_call 72
      refine iZ.out.mono ?_;rintro e Ee ⟨rfl,⟨u10,c10,aJy,Po⟩,Ag⟩;have Ho:=hZ Po;have F10:=hZ ((F8.out.trans F9.out).trans Ag);have A10:=hZ (A9.out.bM Ag (by decide) (by decide) (by decide));have B10:=hZ (B9.out.bM Ag (by decide) (by decide) (by decide))
      clear Po Ag)
    |((with_reducible refine qW Tryz.underlying35 rfl bN tb 0 (nA na) ?_ ?_ B10.out (Sub.all _) Fs.out ?_);rfl;rfl)
    |((with_reducible refine fM bN (w.heap.size+1) (nA na) ?_ ?_ A10.out rfl rfl (bI _) ?_);rfl;rfl))
   try simp only[Exit.inBlock,Exit.then]
   refine bodyPost_ret (v:=(na:bX).v) ?_ rfl (Rj Ho.out (λb hz=>.inl (.inl hz)) (.inl (.inr rfl)) A10.out F10.out HN.out (by omega) HR2.out);rw[bZ rfl];simp[asAddr,Result.andThen,Act.put,aV (A10.out.row _)]
  ·have HR2:=hZ (HR.out.trans (if_neg he))
   clear HR;have hne:(na.err==0)=false:=by rw[beq_eq_false_iff_ne];exact he
   go_wp2_with(first
    |((with_reducible refine qW Tryz.underlying35 rfl bN tb 0 (nA na) ?_ ?_ B8.out (Sub.all _) Fs.out ?_);rfl;rfl)
    |((with_reducible refine fM bN (w.heap.size+1) (nA na) ?_ ?_ A8.out rfl rfl (bI _) ?_);rfl;rfl))
   try simp only[Exit.inBlock,Exit.then]
   refine bodyPost_ret (v:=(na:bX).v) ?_ rfl (Rj M8.out (λb hz=>.inl (.inl hz)) (.inl (.inr rfl)) A8.out F8.out HN.out (by omega) HR2.out);rw[bZ rfl];simp[asAddr,Result.andThen,Act.put,aV (A8.out.row _)]
theorem aDx {w:World} {N m r t u c:Nat} {Z:Nat->Prop} {cs:Array Value} {v:Vm} (h:Mo w N Z m r t u c cs v) (o:aL) (ho:o.fits) (hp0:0<=o.proc) (Mh:o.proc<4) (hkd:o.kind=2\/o.kind=3\/o.kind=4) (hS:aBe v o):
 Calls Tryz.prog 39 #[.pointer (some ⟨m,0,none⟩),.agg (aZ o)] w (Ga N Z m r t (tC v o) w):=by
 obtain⟨k,hpk⟩:∃k:Nat,o.proc=k:=⟨o.proc.toNat,by omega⟩;have hk4:k<4:=by omega
 have hki:(k:Int)<4:=by omega
 have hk0:(0:Int)<=(k:Int):=by omega
 have hpn:o.proc.toNat=k:=by rw[hpk];rfl
 obtain⟨res,hres⟩:∃res,res=vZ v o:=⟨_,rfl⟩;have hr1:res=iK (v.ps k).rg (v.ps k).ks o:=by rw[hres];unfold vZ;rw[if_neg (by omega),hpn]
 have HR:Hid (tC v o=if res.2.err=0 then(kL (Bn v k res.1) k res.1,res.2) else(v,res.2)):=hZ (by rw[hres,<-hpn];rfl);have jN:Hid (res.2.err=0->res.1.length<=64):=hZ (by rw[hr1];exact λh=>aEU hkd h);have zQ:Hid (res.2.err=0->∀n:Nat,n<64->(dF res.1 n).isSome=false->Q3 (iA (Bn v k res.1) k res.1 n) k n):=hZ (by rw[hres,<-hpn];exact hS.e);obtain⟨vx,hvx,hrt⟩:=h.V.rg k hk4;have aPn:=hZ hrt;have Qr:=hZ hvx;have Di:=hZ (h.V.ks k hk4);have HMP:=hZ (λ(W:World) (hM:Mo W N (λb=>Z b\/b=w.heap.size+1) m r t u c cs v)=>H9 hM hS.r);have Tg:Hid (∀(w':World),Below w.heap.size w w'->Calls Tryz.prog 55 #[vx,.agg (kA (v.ps k).ks),.agg (aZ o)] w' λe w''=>∃u,e=.returned (.tuple #[u,.agg (nA res.2)])/\Os fR 6 99 w'' w'.heap.size u res.1/\Below w'.heap.size w' w''):=hZ (by rw[hr1];exact λw' hb=>(aGR (hrt.rv.below hb) (v.ps k).ks o ho hkd).mono λe w2 h=>h);clear hr1 hres hvx hrt hS;have hW1:Below w.heap.size w ((w.alloc (.cells (aZ o) 26)).alloc (.cells #[.int .i64 0,.int .i64 0,.int .i64 0,.int .i64 0] 35)):=(aD _ _).alloc (by simp) _;have qZ:Bx ((w.alloc (.cells (aZ o) 26)).alloc (.cells #[.int .i64 0,.int .i64 0,.int .i64 0,.int .i64 0] 35)) w.heap.size 26 (aZ o):=(Bx.new _ _ _).below (aD _ _);have hA1:Bx ((w.alloc (.cells (aZ o) 26)).alloc (.cells #[.int .i64 0,.int .i64 0,.int .i64 0,.int .i64 0] 35)) (w.heap.size+1) 35 #[.int .i64 0,.int .i64 0,.int .i64 0,.int .i64 0]:=by
  have:=Bx.new (w.alloc (.cells (aZ o) 26)) 35 #[.int .i64 0,.int .i64 0,.int .i64 0,.int .i64 0];rwa[World.size_alloc] at this
 obtain⟨w1,hw1⟩:∃w1,w1=((w.alloc (.cells (aZ o) 26)).alloc (.cells #[.int .i64 0,.int .i64 0,.int .i64 0,.int .i64 0] 35)):=⟨_,rfl⟩;have HW1:=hZ hw1;rw[<-hw1] at hW1 qZ hA1;have K1:=hZ hW1;have O1:=hZ qZ;have A1:=hZ hA1;have M1:=hZ (h.fresh (g:=w.heap.size+1) hW1 (by omega) hA1.lt);have F1:=hZ (aN.of h.hN hW1);have HN:=hZ h.hN;have OP:Hid ((aZ o)[1]? =some (.int .i64 k)):=hZ (by rw[<-hpk];rfl);have OK:Hid ((aZ o)[0]? =some (.int .i64 o.kind)):=hZ rfl;have mY:Hid ((aZ o).size=12):=hZ rfl;clear h hw1 hW1 qZ hA1 hp0 Mh hpk hpn;obtain⟨rs,hrs⟩:∃rs,rs=tC v o:=⟨_,rfl⟩;rw[<-hrs] at HR⊢;clear hrs;obtain⟨kd,aCu⟩:∃kd,kd=o.kind:=⟨_,rfl⟩;rw[<-aCu] at OK hkd;clear aCu;obtain⟨oA,rU⟩:∃oA,oA=aZ o:=⟨_,rfl⟩;rw[<-rU] at HW1 O1 OP OK mY Tg⊢;clear rU ho;obtain⟨KK,hKK⟩:∃KK,KK=(v.ps k).ks:=⟨_,rfl⟩;rw[<-hKK] at Tg Di;clear hKK;obtain⟨rl,na⟩:=res;simp only at Tg HR jN zQ;have NA0:Hid ((nA na)[0]? =some (.int .i64 na.err)):=hZ rfl;have Fs:Hid ((nA na).size=4):=hZ rfl;obtain⟨mp,hmp⟩:∃mp,mp=cK v:=⟨_,rfl⟩;rw[<-hmp] at HMP;clear hmp;rcases hkd with rfl|rfl|rfl
 all_goals
  go_enter Tryz.func39,Tryz.ntmps39;go_upto_region 1 with fail
  rw[<-HW1.out];have o1:w1.cell? ⟨w.heap.size,1,none⟩=some (.int .i64 (k:Int)):=by rw[O1.out.cell];exact OP.out
  have l1:w.heap.size<w1.heap.size:=O1.out.lt;have lm:=M1.out.size;have gc:∀(d:Nat) (os:Array Obj) (b o:Nat),b<w1.heap.size->(grow (redrawn w1 d) os).cell? ⟨b,o,none⟩=w1.cell? ⟨b,o,none⟩:=λd os b o h=>(below_regrown _ d os).cell (p:=⟨b,o,none⟩) h;refine fK [] (by kernel_rfl) (by kernel_rfl) ?_;intro V hV;iterate 3 (refine rq rfl rfl ?_;go_big_quiet_step(fail);refine wpQuiet_nil ?_)
  refine rn ⟨m,0,none⟩ (by kernel_rfl) rfl rfl ?_;go_big_quiet_step(fail);refine wpQuiet_nil ?_;iterate 3 (refine rq rfl rfl ?_;go_big_quiet_step(fail);refine wpQuiet_nil ?_)
  refine rend ?_;intro w3 hb3 hf;clear hf hV gc o1 l1 lm;have A3:=hZ (A1.out.below hb3);have O3:=hZ (O1.out.below hb3);have M3:=hZ (M1.out.below hb3);have F3:=hZ (F1.out.trans (aN.of M1.out.hN hb3));have K3:=hZ (K1.out.trans (hb3.mono K1.out.size));clear hb3;have c0:=(O3.out.cell 0).trans OK.out;have l0:w.heap.size<w3.heap.size:=O3.out.lt;go_upto_region 6 with fail
  have Cc:=aD w3 (.cells #[.int .i64 0,.int .i64 0,.int .i64 0,.int .i64 0] 35);have B6:Hid (Bx (w3.alloc (.cells #[.int .i64 0,.int .i64 0,.int .i64 0,.int .i64 0] 35)) w3.heap.size 35 #[.int .i64 0,.int .i64 0,.int .i64 0,.int .i64 0]):=hZ (Bx.new _ _ _);have LB:Hid (w.heap.size+1<w3.heap.size):=hZ A3.out.lt;obtain⟨tb,htb⟩:∃tb,tb=w3.heap.size:=⟨_,rfl⟩;have HTB:Hid (w3.heap.size<=tb):=hZ (by omega);rw[<-htb] at B6 LB⊢;obtain⟨w6,xO⟩:∃w6,w6=w3.alloc (.cells #[.int .i64 0,.int .i64 0,.int .i64 0,.int .i64 0] 35):=⟨_,rfl⟩;rw[<-xO] at B6 Cc⊢;have A6:=hZ (A3.out.below Cc);have O6:=hZ (O3.out.below Cc);have M6:=hZ (M3.out.fresh (g:=tb) Cc HTB.out B6.out.lt);have M6b:=hZ (M3.out.below Cc);have F6:=hZ (F3.out.trans (aN.of M3.out.hN Cc));have K6:=hZ (K3.out.trans (Cc.mono K3.out.size));have X6:=hZ (M6.out.X);clear xO htb Cc c0 l0;have cv:w6.cell? ⟨m,69+k*11+2,none⟩=some vx:=by rw[X6.out.cell];exact Qr.out
  have lv:m<w6.heap.size:=X6.out.lt;have gc:∀(d:Nat) (os:Array Obj) (b o:Nat),b<w6.heap.size->(grow (redrawn w6 d) os).cell? ⟨b,o,none⟩=w6.cell? ⟨b,o,none⟩:=λd os b o h=>(below_regrown _ d os).cell (p:=⟨b,o,none⟩) h;refine kD 14 [Sp.mav 9 w6.heap.size rl na] (by kernel_rfl) (by kernel_rfl) (by kernel_rfl) ?_;intro V hV;obtain⟨ux,eC⟩:∃u,V 9=.tuple #[u,.agg (nA na)]:=hV 9;simp only[List.take_succ_cons,List.take_zero,List.drop_succ_cons,List.drop_zero];refine rq rfl rfl ?_;go_big_quiet_step(fail);refine wpQuiet_nil ?_;refine rn ⟨m,69+k*11,none⟩ (by kernel_rfl) rfl rfl ?_;go_big_quiet_step(fail);refine wpQuiet_nil ?_;iterate 3 (refine rq rfl rfl ?_;go_big_quiet_step(fail);refine wpQuiet_nil ?_)
  refine rn ⟨m,69+k*11,none⟩ (by kernel_rfl) rfl rfl ?_;go_big_quiet_step(fail);refine wpQuiet_nil ?_;refine rq rfl rfl ?_;go_big_quiet_step(fail);refine wpQuiet_nil ?_;refine rf (.agg (kA KK)) (by kernel_rfl) rfl (λw' hb hf=>nU rfl (lN Tryz.underlying40 rfl gX (X6.out.below hb) Di.out rfl)) ?_;go_big_quiet_step(fail);refine wpQuiet_nil ?_;refine rf (.agg oA) (by kernel_rfl) rfl (λw' hb hf=>nU rfl (lN Tryz.underlying26 rfl kY (O6.out.below hb) (Sub.all _) mY.out)) ?_;go_big_quiet_step(fail);refine wpQuiet_nil ?_;refine mQ (Sp.mav 9 w6.heap.size rl na) (by kernel_rfl) rfl (λw' hb hf=> ?_) ?_
  ·refine bY (f:=55) (args:= #[vx,.agg (kA KK),.agg oA]) ?_ ((Tg.out w' (K6.out.trans (hb.mono K6.out.size))).mono ?_)
   ·go_simp
   ·rintro e w'' ⟨u0,rfl,ho,hb2⟩
    exact⟨_,rfl,hb2,⟨u0,rfl⟩,u0,rfl,ho.gD hb.size⟩
  go_big_quiet_step(fail);refine wpQuiet_nil ?_;simp only[eC];iterate 4 (refine rq rfl rfl ?_;go_big_quiet_step(fail);refine wpQuiet_nil ?_)
  refine rend ?_;clear eC;intro w7 eX hf;obtain⟨u2,hu2,HO⟩:∃u2,Value.tuple #[ux,.agg (nA na)]=.tuple #[u2,.agg (nA na)]/\Os fR 6 99 w7 w6.heap.size u2 rl:=hf _ (List.Mem.head _);obtain rfl:ux=u2:=by
   injection hu2 with h1;injection h1 with h1;injection h1 with h1 h2
  clear hf hV gc cv lv hu2;have B7:=hZ (B6.out.below eX);have A7:=hZ (A6.out.below eX);have O7:=hZ (O6.out.below eX);have M7:=hZ (M6.out.below eX);have F7:=hZ (F6.out.trans (aN.of M6.out.hN eX));have LW:Hid (tb<w6.heap.size):=hZ B6.out.lt;clear eX;refine fM bN tb (nA na) rfl rfl B7.out rfl rfl (bI _) ?_;have B8:=hZ (B7.out.row (nA na));have A8:=hZ (A7.out.kQ (q:=tb) (by have:=LB.out;omega) (nA na));have O8:=hZ (O7.out.kQ (q:=tb) (by have:=LB.out;omega) (nA na));have MF8:=hZ (Re (w:=w) M7.out (.inr rfl) B7.out F7.out HN.out (by have:=LB.out;omega) (nA na));have M8:=hZ MF8.out.1;have F8:=hZ MF8.out.2;have Tf:=hZ (HO.kQ LW.out (nA na));obtain⟨w8,hw8⟩:∃w8,w8=w7.setRow tb (nA na):=⟨_,rfl⟩;rw[<-hw8] at B8 A8 O8 M8 F8 Tf⊢;clear hw8 HO MF8;have ca:w8.cell? ⟨tb,0,none⟩=some (.int .i64 na.err):=by rw[B8.out.cell];exact NA0.out
  have la:tb<w8.heap.size:=B8.out.lt;by_cases he:na.err=0
  ·have HR2:=hZ (HR.out.trans (if_pos he))
   rw[he] at ca;clear HR;have uK:=hZ (Rt.of Tf.out (jN.out he));have aJ3:=hZ (zQ.out he);obtain⟨Au,nu,cu,rfl,_⟩:=uK.out;have c9:w8.cell? ⟨m,69+k*11+2,none⟩=some vx:=by rw[M8.out.X.cell];exact Qr.out
   have f9:w8.frozen? ⟨m,69+k*11+2,none⟩=false:=M8.out.X.free _;have l9:m<w8.heap.size:=M8.out.X.lt;have M9:=hZ (M8.out.aKh hk4 uK.out);have F9:Hid (aN N w8 (w8.setCell ⟨m,69+k*11+2,none⟩ (.slice Au nu cu))):=hZ ⟨(Below.refl _ _).setCell (p:=⟨m,69+k*11+2,none⟩) M8.out.nm _,λb T cs' h1 h2 h3 hx=>(gW w8 m _ _ b (gP hx M8.out.X h1)).trans hx⟩;have B9:=hZ (B8.out.bM F9.out (by decide) (by decide) (by decide));have A9:=hZ (A8.out.bM F9.out (by decide) (by decide) (by decide));have O9:=hZ (O8.out.bM F9.out (by decide) (by decide) (by decide));have aDs:Hid (Rt (w8.setCell ⟨m,69+k*11+2,none⟩ (.slice Au nu cu)) (.slice Au nu cu) rl):=hZ (uK.out.keep λb cur hx=>F9.out.2 b _ cur (by decide) (by decide) (by decide) hx);go_upto_region 9 with fail
   obtain⟨w9,Mf⟩:∃w9,w9=w8.setCell ⟨m,69+k*11+2,none⟩ (.slice Au nu cu):=⟨_,rfl⟩;rw[<-Mf] at M9 F9 B9 A9 O9 aDs⊢;clear Mf c9 f9 l9 ca la;have o9:w9.cell? ⟨w.heap.size,1,none⟩=some (.int .i64 (k:Int)):=by rw[O9.out.cell];exact OP.out
   have l9:w.heap.size<w9.heap.size:=O9.out.lt;have iZ:=hZ (J4 M9.out hk4 aDs.out aJ3.out)
   go_wp2_with(first
    |(go_at_call 72
      refine iZ.out.mono ?_;rintro e Ee ⟨rfl,⟨u10,c10,aJy,Po⟩,Ag⟩;have Ho:=hZ Po;have F10:=hZ ((F8.out.trans F9.out).trans Ag);have A10:=hZ (A9.out.bM Ag (by decide) (by decide) (by decide));have B10:=hZ (B9.out.bM Ag (by decide) (by decide) (by decide))
      clear Po Ag)
    |((with_reducible refine qW Tryz.underlying35 rfl bN tb 0 (nA na) ?_ ?_ B10.out (Sub.all _) Fs.out ?_);rfl;rfl)
    |((with_reducible refine fM bN (w.heap.size+1) (nA na) ?_ ?_ A10.out rfl rfl (bI _) ?_);rfl;rfl))
   try simp only[Exit.inBlock,Exit.then]
   refine bodyPost_ret (v:=(na:bX).v) ?_ rfl (Rj Ho.out (λb hz=>.inl (.inl hz)) (.inl (.inr rfl)) A10.out F10.out HN.out (by omega) HR2.out);rw[bZ rfl];simp[asAddr,Result.andThen,Act.put,aV (A10.out.row _)]
  ·have HR2:=hZ (HR.out.trans (if_neg he))
   clear HR;have hne:(na.err==0)=false:=by rw[beq_eq_false_iff_ne];exact he
   go_wp2_with(first
    |((with_reducible refine qW Tryz.underlying35 rfl bN tb 0 (nA na) ?_ ?_ B8.out (Sub.all _) Fs.out ?_);rfl;rfl)
    |((with_reducible refine fM bN (w.heap.size+1) (nA na) ?_ ?_ A8.out rfl rfl (bI _) ?_);rfl;rfl))
   try simp only[Exit.inBlock,Exit.then]
   refine bodyPost_ret (v:=(na:bX).v) ?_ rfl (Rj M8.out (λb hz=>.inl (.inl hz)) (.inl (.inr rfl)) A8.out F8.out HN.out (by omega) HR2.out);rw[bZ rfl];simp[asAddr,Result.andThen,Act.put,aV (A8.out.row _)]
theorem aEV {w:World} {N m r t u c:Nat} {Z:Nat->Prop} {cs:Array Value} {v:Vm} (h:Mo w N Z m r t u c cs v) (o:aL) (ho:o.fits) (hp0:0<=o.proc) (Mh:o.proc<4) (hkd:1<=o.kind/\o.kind<=4) (hS:aBe v o):
 Calls Tryz.prog 39 #[.pointer (some ⟨m,0,none⟩),.agg (aZ o)] w (Ga N Z m r t (tC v o) w):=by
 by_cases h1:o.kind=1
 ·exact aET h o ho hp0 Mh h1 hS
 ·exact aDx h o ho hp0 Mh (by omega) hS
structure aJ8 (v:Vm):Prop where
 tb:Bytes v.ts
 rf:kR v.rf
 tl:v.tl.length<=1000
 ev:zL v=true->∃F S,Evi v F S
def Zr (v:Vm):Nat->Prop
 |0=>True
 |n+1=>aJ8 v/\(zL v=true->Zr (bE v) n)
structure aNH (v:Vm) (o:aL):Prop where
 sh:1<=o.kind->o.kind<=4->aBe v o
 fk:o.kind=8->(∀k,k<4->bF (v.ps k).rg=true)/\(¬(cZ v=4\/64<cK v+tot (v.ps o.proc.toNat).rg)->aF6 v o.proc.toNat)
 ex:o.kind=9->aF7 v o.proc.toNat
 ss:10<=o.kind->o.kind<=13->gM o=true->Zq v o (dD o.addr (aU o))
 ts:10<=o.kind->o.kind<=13->gM o=true->(dB v o (dD o.addr (aU o))).2.1=0->Qi (dB v o (dD o.addr (aU o))).1 o 0 (dD o.addr (aU o))
structure aJ9 (v:Vm) (o:aL):Prop where
 rc:o.kind=14->Zr v (min o.count 64).toNat
 lv:0<=o.proc->o.proc<4->(v.ps o.proc.toNat).live=true->aNH v o
theorem Li {v:Vm} (h:zL v=false):bE v=v:=by
 unfold zL at h;unfold bE;rw[if_pos (by simpa using h)]
theorem aEX {w:World} {N m r t u c:Nat} {Z:Nat->Prop} {cs:Array Value} {v:Vm} (h:Mo w N Z m r t u c cs v) (hE:aJ8 v):
 Calls Tryz.prog 38 #[.pointer (some ⟨m,0,none⟩)] w (Gb N Z m r t (zL v) (bE v) w):=by
 cases hb:zL v with
 |true=>obtain⟨F,S,h1⟩:=hE.ev hb;exact Vt h hE.tb hE.rf hE.tl h1
 |false=>rw[Li hb];exact aGl h hb
theorem Mo.aNW {w:World} {N m r t u c:Nat} {Z:Nat->Prop} {cs:Array Value} {v:Vm} (h:Mo w N Z m r t u c cs v) {k:Nat} (hk:k<4) (K:aJ):
 Mo (w.setCells m (69+k*11+3) (kA K).toList) N Z m r t u c (rP cs (69+k*11+3) (kA K).toList) (Eu v k K):=by
 have hl:(kA K).toList.length=8:=by simp[kA]
 have hcs:=h.V.size;have kk:=eU w m (69+k*11+3) (kA K).toList;have hne:∀j,j<69+k*11+3\/69+k*11+11<=j->(rP cs (69+k*11+3) (kA K).toList)[j]? =cs[j]? :=λj hj=>D5 _ _ _ _ (by omega);obtain⟨x,hx1,hx2⟩:=h.V.rg k hk;have hx3:Rt (w.setCells m (69+k*11+3) (kA K).toList) x (v.ps k).rg:=hx2.keep λb cur hx=>(kk.block b hx.lt (gP hx h.X (by decide))).trans hx;refine h.put (v':=Eu v k K) kk.size (h.X.cells (kA K).toList _) (λb hb hne=>kk.block b hb hne) rfl rfl rfl
  ((h.V' (λb hb hne=>kk.block b hb hne) kk.size).ps_ (p:= { v.ps k with ks:=K }) (by rw[Ka];exact hcs) (Q5 _ _ _ h.V.one λy hy=> ?_) (λj hj=>hne j (by omega)) hk (λj hj=>hne j (by omega)) ((hne _ (by omega)).trans (h.V.live k hk)) ((hne _ (by omega)).trans (h.V.root k hk)) ⟨x,(hne _ (by omega)).trans hx1,hx3⟩ λi y hy=> ?_)
 ·have:=qY K
  rw[Array.all_eq_true_iff_forall_mem] at this;exact this y (by simpa using hy)
 ·have hi:=sK hy
  rw[V5 _ _ _ _ (by rw[hl];omega) (by omega)];simpa using hy
theorem Mo.aAD {w:World} {N m r t u c:Nat} {Z:Nat->Prop} {cs:Array Value} {v:Vm} (h:Mo w N Z m r t u c cs v) (o:Nat) (xs:List Value):aN N w (w.setCells m o xs):=h.qU (eU w m o xs)
theorem aH7 {w:World} {N m r t u c:Nat} {Z:Nat->Prop} {cs:Array Value} {v:Vm} (h:Mo w N Z m r t u c cs v) (o:aL) (ho:o.fits) (hk:o.kind<1\/14<o.kind):
 Calls Tryz.prog 18 #[.pointer (some ⟨m,0,none⟩),.agg (aZ o)] w (Ga N Z m r t (iQ v o) w):=by
 have HR:Hid (iQ v o=(v,aB 5)):=hZ (by unfold iQ;rw[if_pos hk]);have hW1:Below w.heap.size w ((w.alloc (.cells (aZ o) 26)).alloc (.cells #[.int .i64 0,.int .i64 0,.int .i64 0,.int .i64 0] 35)):=(aD _ _).alloc (by simp) _;have qZ:Bx ((w.alloc (.cells (aZ o) 26)).alloc (.cells #[.int .i64 0,.int .i64 0,.int .i64 0,.int .i64 0] 35)) w.heap.size 26 (aZ o):=(Bx.new _ _ _).below (aD _ _);have hA1:Bx ((w.alloc (.cells (aZ o) 26)).alloc (.cells #[.int .i64 0,.int .i64 0,.int .i64 0,.int .i64 0] 35)) (w.heap.size+1) 35 #[.int .i64 0,.int .i64 0,.int .i64 0,.int .i64 0]:=by
  have:=Bx.new (w.alloc (.cells (aZ o) 26)) 35 #[.int .i64 0,.int .i64 0,.int .i64 0,.int .i64 0];rwa[World.size_alloc] at this
 obtain⟨w1,hw1⟩:∃w1,w1=((w.alloc (.cells (aZ o) 26)).alloc (.cells #[.int .i64 0,.int .i64 0,.int .i64 0,.int .i64 0] 35)):=⟨_,rfl⟩;have HW1:=hZ hw1;rw[<-hw1] at hW1 qZ hA1;have K1:=hZ hW1;have O1:=hZ qZ;have A1:=hZ hA1;have M1:=hZ (h.fresh (g:=w.heap.size+1) hW1 (by omega) hA1.lt);have F1:=hZ (aN.of h.hN hW1);have HN:=hZ h.hN;have c0:((w.alloc (.cells (aZ o) 26)).alloc (.cells #[.int .i64 0,.int .i64 0,.int .i64 0,.int .i64 0] 35)).cell? ⟨w.heap.size,0,none⟩=some (.int .i64 o.kind):=by rw[<-hw1,O1.out.cell];rfl
 have OP:Hid ((aZ o)[1]? =some (.int .i64 o.proc)):=hZ rfl;have OC:Hid ((aZ o)[3]? =some (.int .i64 o.count)):=hZ rfl;have OK:Hid ((aZ o)[0]? =some (.int .i64 o.kind)):=hZ rfl;have mY:Hid ((aZ o).size=12):=hZ rfl;clear h hw1 hW1 qZ hA1;generalize iQ v o=rs at*;obtain⟨kd,hkd⟩:∃kd,kd=o.kind:=⟨_,rfl⟩;rw[<-hkd] at c0 hk;clear hkd OP OC OK mY;obtain⟨oA,rU⟩:∃oA,oA=aZ o:=⟨_,rfl⟩;rw[<-rU] at HW1 O1 c0⊢;clear rU ho;obtain⟨b1,hb1⟩:∃b,decide (kd<1)=b:=⟨_,rfl⟩;obtain⟨b2,hb2⟩:∃b,decide (14<kd)=b:=⟨_,rfl⟩;rcases hk with hk|hk
 ·have hd:decide (kd<1)=true:=decide_eq_true hk
  clear hb1 hb2 hk;go_enter Tryz.func18,Tryz.ntmps18;go_wp2_with(((with_reducible refine fM bN (w.heap.size+1) (nA (aB 5)) ?_ ?_ (HW1.out▸A1.out) rfl rfl (bI _) ?_);rfl;rfl))
  rw[<-HW1.out];try simp only[Exit.inBlock,Exit.then]
  refine bodyPost_ret (v:=(aB 5:bX).v) ?_ rfl (nL M1.out A1.out F1.out HN.out (by omega) HR.out);rw[bZ rfl];simp[asAddr,Result.andThen,Act.put,aV (A1.out.row _)]
 ·have hd:decide (kd<1)=false:=decide_eq_false (by omega)
  have hd2:decide (14<kd)=true:=decide_eq_true hk;clear hb1 hb2 hk;go_enter Tryz.func18,Tryz.ntmps18;go_wp2_with(((with_reducible refine fM bN (w.heap.size+1) (nA (aB 5)) ?_ ?_ (HW1.out▸A1.out) rfl rfl (bI _) ?_);rfl;rfl))
  rw[<-HW1.out];try simp only[Exit.inBlock,Exit.then]
  refine bodyPost_ret (v:=(aB 5:bX).v) ?_ rfl (nL M1.out A1.out F1.out HN.out (by omega) HR.out);rw[bZ rfl];simp[asAddr,Result.andThen,Act.put,aV (A1.out.row _)]
theorem aL9 {w:World} {N m r t u c:Nat} {Z:Nat->Prop} {cs:Array Value} {v:Vm} (h:Mo w N Z m r t u c cs v) (o:aL) (ho:o.fits) (hk:o.kind=14) (hR:Zr v (min o.count 64).toNat):
 Calls Tryz.prog 18 #[.pointer (some ⟨m,0,none⟩),.agg (aZ o)] w (Ga N Z m r t (iQ v o) w):=by
 have HR:Hid (iQ v o=(mZ v (min o.count 64).toNat,aB 0)):=hZ (by unfold iQ;rw[if_neg (by omega),if_pos hk]);have HRC:=hZ hR;have hW1:Below w.heap.size w ((w.alloc (.cells (aZ o) 26)).alloc (.cells #[.int .i64 0,.int .i64 0,.int .i64 0,.int .i64 0] 35)):=(aD _ _).alloc (by simp) _;have qZ:Bx ((w.alloc (.cells (aZ o) 26)).alloc (.cells #[.int .i64 0,.int .i64 0,.int .i64 0,.int .i64 0] 35)) w.heap.size 26 (aZ o):=(Bx.new _ _ _).below (aD _ _);have hA1:Bx ((w.alloc (.cells (aZ o) 26)).alloc (.cells #[.int .i64 0,.int .i64 0,.int .i64 0,.int .i64 0] 35)) (w.heap.size+1) 35 #[.int .i64 0,.int .i64 0,.int .i64 0,.int .i64 0]:=by
  have:=Bx.new (w.alloc (.cells (aZ o) 26)) 35 #[.int .i64 0,.int .i64 0,.int .i64 0,.int .i64 0];rwa[World.size_alloc] at this
 obtain⟨w1,hw1⟩:∃w1,w1=((w.alloc (.cells (aZ o) 26)).alloc (.cells #[.int .i64 0,.int .i64 0,.int .i64 0,.int .i64 0] 35)):=⟨_,rfl⟩;have HW1:=hZ hw1;rw[<-hw1] at hW1 qZ hA1;have K1:=hZ hW1;have O1:=hZ qZ;have A1:=hZ hA1;have M1:=hZ (h.fresh (g:=w.heap.size+1) hW1 (by omega) hA1.lt);have F1:=hZ (aN.of h.hN hW1);have HN:=hZ h.hN;have c0:((w.alloc (.cells (aZ o) 26)).alloc (.cells #[.int .i64 0,.int .i64 0,.int .i64 0,.int .i64 0] 35)).cell? ⟨w.heap.size,0,none⟩=some (.int .i64 o.kind):=by rw[<-hw1,O1.out.cell];rfl
 have OP:Hid ((aZ o)[1]? =some (.int .i64 o.proc)):=hZ rfl;have OC:Hid ((aZ o)[3]? =some (.int .i64 o.count)):=hZ rfl;have OK:Hid ((aZ o)[0]? =some (.int .i64 o.kind)):=hZ rfl;have mY:Hid ((aZ o).size=12):=hZ rfl;clear h hw1 hW1 qZ hA1;generalize iQ v o=rs at*;rw[hk] at c0;have FCN: -9223372036854775808<=o.count/\o.count<=9223372036854775807:=ho.2.2.2.1;obtain⟨cn,hcn⟩:∃cn,cn=o.count:=⟨_,rfl⟩;rw[<-hcn] at OC FCN HR HRC;clear hcn hk OP OK mY;obtain⟨oA,rU⟩:∃oA,oA=aZ o:=⟨_,rfl⟩;rw[<-rU] at HW1 O1 OC c0⊢;clear rU ho hR;obtain⟨n9,hn9⟩:∃n9,n9=(min cn 64).toNat:=⟨_,rfl⟩;rw[<-hn9] at HR HRC;have Cq:n9<=64:=by omega
 go_enter Tryz.func18,Tryz.ntmps18;go_wp2;rw[<-HW1.out];clear c0;go_loopw [5] (λi wr=>∃(n:Nat) (U:Vm),n<=n9/\i=.int .i64 n/\Hid (Mr wr N (λb=>Z b\/b=w.heap.size+1) m r t U)/\Hid (aN N w1 wr)/\Hid (mZ v n9=mZ U (n9 -n))/\Hid (Zr U (n9 -n))) (λi _=>n9 - (intOf i).toNat)
 case atStart=>exact⟨0,v,by omega,rfl,hZ ⟨u,c,cs,M1.out⟩,hZ (aN.refl _ _),hZ (by rw[Nat.sub_zero]),hZ (by rw[Nat.sub_zero];exact HRC.out)⟩
 case round=>
  obtain⟨n,U,hn,rfl,HM,HF,Yh,lS⟩:=hrel;obtain⟨u',c',cs',hM⟩:=HM.out;have M4:=hZ hM;have A4:=hZ (A1.out.bM HF.out (by decide) (by decide) (by decide));have O4:=hZ (O1.out.bM HF.out (by decide) (by decide) (by decide));have F4:=hZ (F1.out.trans HF.out);clear hM HM;have c3:wr.cell? ⟨w.heap.size,3,none⟩=some (.int .i64 cn):=by rw[O4.out.cell];exact OC.out
  have l3:w.heap.size<wr.heap.size:=O4.out.lt;by_cases hlt:n<n9
  ·have hlt2:(n:Int)<min cn 64:=by omega
   obtain⟨q,hq⟩:∃q,n9 -n=q+1:=⟨n9 -n -1,by omega⟩;have hq2:n9 - (n+1)=q:=by omega
   have hso:=lS.out;have hsd:=Yh.out;rw[hq] at hso hsd;have HC:=hZ (aEX M4.out hso.1);obtain⟨eb,heb⟩:∃eb,eb=zL U:=⟨_,rfl⟩;unfold Gb at HC;rw[<-heb] at HC;have HEB:=hZ heb;have HSX:=hZ hso.2;have HSY:Hid (mZ v n9=if zL U then mZ (bE U) q else U):=hZ (hsd.trans rfl);clear heb hso hsd lS Yh hq;cases eb with
   |true=>
    have uJ:Hid (mZ v n9=mZ (bE U) (n9 - (n+1))):=hZ (by rw[HSY.out,<-HEB.out,if_pos rfl,hq2]);have HS2:Hid (Zr (bE U) (n9 - (n+1))):=hZ (by rw[hq2];exact HSX.out HEB.out.symm);clear HSX HSY hq2;go_wp2_with(go_at_call 38;refine HC.out.mono ?_;rintro e w5 ⟨rfl,kH,gY⟩;have M5:=hZ kH;have F5:=hZ (HF.out.trans gY);clear kH gY)
    go_roundw
    case rel=>exact⟨n+1,bE U,by omega,by go_num,M5,F5,uJ,HS2⟩
    case measure=>simp[intOf];omega
   |false=>
    have HR2:Hid (rs=(bE U,aB 0)):=hZ (by rw[HR.out,HSY.out,<-HEB.out,if_neg (by simp),Li HEB.out.symm]);clear HSX HSY hq2
    go_wp2_with(first
     |(go_at_call 38;refine HC.out.mono ?_;rintro e w5 ⟨rfl,⟨u5,c5,cs5,kH⟩,gY⟩;have M5:=hZ kH;have F5:=hZ (F4.out.trans gY);have A5:=hZ (A4.out.bM gY (by decide) (by decide) (by decide));clear kH gY)
     |((with_reducible refine fM bN (w.heap.size+1) (nA (aB 0)) ?_ ?_ A5.out rfl rfl (bI _) ?_);rfl;rfl))
    try simp only[Exit.inBlock,Exit.then]
    refine bodyPost_ret (v:=(aB 0:bX).v) ?_ rfl (nL M5.out A5.out F5.out HN.out (by omega) HR2.out);rw[bZ rfl];simp[asAddr,Result.andThen,Act.put,aV (A5.out.row _)]
  ·have hnn:n=n9:=by omega
   have hge:min cn 64<=(n:Int):=by omega
   have HR2:Hid (rs=(U,aB 0)):=hZ (by rw[HR.out,Yh.out,hnn,Nat.sub_self];rfl);clear Yh lS hnn;go_wp2_with(((with_reducible refine fM bN (w.heap.size+1) (nA (aB 0)) ?_ ?_ A4.out rfl rfl (bI _) ?_);rfl;rfl))
   try simp only[Exit.inBlock,Exit.then]
   refine bodyPost_ret (v:=(aB 0:bX).v) ?_ rfl (nL M4.out A4.out F4.out HN.out (by omega) HR2.out);rw[bZ rfl];simp[asAddr,Result.andThen,Act.put,aV (A4.out.row _)]
theorem aH5 {w:World} {N m r t u c:Nat} {Z:Nat->Prop} {cs:Array Value} {v:Vm} (h:Mo w N Z m r t u c cs v) (o:aL) (ho:o.fits) (hk:1<=o.kind/\o.kind<14) (hp:o.proc<0\/4<=o.proc\/(v.ps o.proc.toNat).live=false):
 Calls Tryz.prog 18 #[.pointer (some ⟨m,0,none⟩),.agg (aZ o)] w (Ga N Z m r t (iQ v o) w):=by
 have HR:Hid (iQ v o=(v,aB 3)):=hZ (by unfold iQ;rw[if_neg (by omega),if_neg (by omega),if_pos hp]);have hW1:Below w.heap.size w ((w.alloc (.cells (aZ o) 26)).alloc (.cells #[.int .i64 0,.int .i64 0,.int .i64 0,.int .i64 0] 35)):=(aD _ _).alloc (by simp) _;have qZ:Bx ((w.alloc (.cells (aZ o) 26)).alloc (.cells #[.int .i64 0,.int .i64 0,.int .i64 0,.int .i64 0] 35)) w.heap.size 26 (aZ o):=(Bx.new _ _ _).below (aD _ _);have hA1:Bx ((w.alloc (.cells (aZ o) 26)).alloc (.cells #[.int .i64 0,.int .i64 0,.int .i64 0,.int .i64 0] 35)) (w.heap.size+1) 35 #[.int .i64 0,.int .i64 0,.int .i64 0,.int .i64 0]:=by
  have:=Bx.new (w.alloc (.cells (aZ o) 26)) 35 #[.int .i64 0,.int .i64 0,.int .i64 0,.int .i64 0];rwa[World.size_alloc] at this
 obtain⟨w1,hw1⟩:∃w1,w1=((w.alloc (.cells (aZ o) 26)).alloc (.cells #[.int .i64 0,.int .i64 0,.int .i64 0,.int .i64 0] 35)):=⟨_,rfl⟩;have HW1:=hZ hw1;rw[<-hw1] at hW1 qZ hA1;have K1:=hZ hW1;have O1:=hZ qZ;have A1:=hZ hA1;have M1:=hZ (h.fresh (g:=w.heap.size+1) hW1 (by omega) hA1.lt);have F1:=hZ (aN.of h.hN hW1);have HN:=hZ h.hN;have c0:((w.alloc (.cells (aZ o) 26)).alloc (.cells #[.int .i64 0,.int .i64 0,.int .i64 0,.int .i64 0] 35)).cell? ⟨w.heap.size,0,none⟩=some (.int .i64 o.kind):=by rw[<-hw1,O1.out.cell];rfl
 have OP:Hid ((aZ o)[1]? =some (.int .i64 o.proc)):=hZ rfl;have OC:Hid ((aZ o)[3]? =some (.int .i64 o.count)):=hZ rfl;have OK:Hid ((aZ o)[0]? =some (.int .i64 o.kind)):=hZ rfl;have mY:Hid ((aZ o).size=12):=hZ rfl;clear h hw1 hW1 qZ hA1;generalize iQ v o=rs at*;obtain⟨kd,hkd⟩:∃kd,kd=o.kind:=⟨_,rfl⟩;obtain⟨pr,hpr⟩:∃pr,pr=o.proc:=⟨_,rfl⟩;rw[<-hkd] at c0 hk;rw[<-hpr] at OP hp;clear hkd hpr OC OK mY;obtain⟨oA,rU⟩:∃oA,oA=aZ o:=⟨_,rfl⟩;rw[<-rU] at HW1 O1 c0 OP⊢;clear rU ho;have hk1:decide (kd<1)=false:=decide_eq_false (by omega);have hk2:decide (14<kd)=false:=decide_eq_false (by omega);have hk3:(kd==14)=false:=by rw[beq_eq_false_iff_ne];omega
 clear hk;by_cases h0:pr<0
 ·have hd:decide (pr<0)=true:=decide_eq_true h0
  clear hp;go_enter Tryz.func18,Tryz.ntmps18;go_upto_region 8 with fail
  rw[<-HW1.out];clear c0;have c1:w1.cell? ⟨w.heap.size,1,none⟩=some (.int .i64 pr):=by rw[O1.out.cell];exact OP.out
  have l1:w.heap.size<w1.heap.size:=O1.out.lt;have gc:∀(d:Nat) (os:Array Obj) (b o:Nat),b<w1.heap.size->(grow (redrawn w1 d) os).cell? ⟨b,o,none⟩=w1.cell? ⟨b,o,none⟩:=λd os b o h=>(below_regrown _ d os).cell (p:=⟨b,o,none⟩) h;refine fK [] (by kernel_rfl) (by kernel_rfl) ?_;intro V hV;iterate 4 (refine rq rfl rfl ?_;go_big_quiet_step(fail);refine wpQuiet_nil ?_)
  iterate 3 (refine rk (by kernel_rfl) ?_;go_big_quiet_step(fail);refine wpQuiet_nil ?_)
  iterate 2 (refine rq rfl rfl ?_;go_big_quiet_step(fail);refine wpQuiet_nil ?_)
  iterate 9 (refine rk (by kernel_rfl) ?_;go_big_quiet_step(fail);refine wpQuiet_nil ?_)
  iterate 2 (refine rq rfl rfl ?_;go_big_quiet_step(fail);refine wpQuiet_nil ?_)
  refine rend ?_;intro w3 hb3 hf;clear hf hV gc c1 l1;have A3:=hZ (A1.out.below hb3);have O3:=hZ (O1.out.below hb3);have M3:=hZ (M1.out.below hb3);have F3:=hZ (F1.out.trans (aN.of M1.out.hN hb3));have K3:=hZ (K1.out.trans (hb3.mono K1.out.size));clear hb3;go_wp2_with(((with_reducible refine fM bN (w.heap.size+1) (nA (aB 3)) ?_ ?_ A3.out rfl rfl (bI _) ?_);rfl;rfl))
  try simp only[Exit.inBlock,Exit.then]
  refine bodyPost_ret (v:=(aB 3:bX).v) ?_ rfl (nL M3.out A3.out F3.out HN.out (by omega) HR.out);rw[bZ rfl];simp[asAddr,Result.andThen,Act.put,aV (A3.out.row _)]
 have hd:decide (pr<0)=false:=decide_eq_false h0;by_cases h4:4<=pr
 ·have hd4:decide (4<=pr)=true:=decide_eq_true h4
  clear hp;go_enter Tryz.func18,Tryz.ntmps18;go_upto_region 8 with fail
  rw[<-HW1.out];clear c0;have c1:w1.cell? ⟨w.heap.size,1,none⟩=some (.int .i64 pr):=by rw[O1.out.cell];exact OP.out
  have l1:w.heap.size<w1.heap.size:=O1.out.lt;have gc:∀(d:Nat) (os:Array Obj) (b o:Nat),b<w1.heap.size->(grow (redrawn w1 d) os).cell? ⟨b,o,none⟩=w1.cell? ⟨b,o,none⟩:=λd os b o h=>(below_regrown _ d os).cell (p:=⟨b,o,none⟩) h;refine fK [] (by kernel_rfl) (by kernel_rfl) ?_;intro V hV;iterate 9 (refine rq rfl rfl ?_;go_big_quiet_step(fail);refine wpQuiet_nil ?_)
  iterate 9 (refine rk (by kernel_rfl) ?_;go_big_quiet_step(fail);refine wpQuiet_nil ?_)
  iterate 2 (refine rq rfl rfl ?_;go_big_quiet_step(fail);refine wpQuiet_nil ?_)
  refine rend ?_;intro w3 hb3 hf;clear hf hV gc c1 l1;have A3:=hZ (A1.out.below hb3);have O3:=hZ (O1.out.below hb3);have M3:=hZ (M1.out.below hb3);have F3:=hZ (F1.out.trans (aN.of M1.out.hN hb3));have K3:=hZ (K1.out.trans (hb3.mono K1.out.size));clear hb3;go_wp2_with(((with_reducible refine fM bN (w.heap.size+1) (nA (aB 3)) ?_ ?_ A3.out rfl rfl (bI _) ?_);rfl;rfl))
  try simp only[Exit.inBlock,Exit.then]
  refine bodyPost_ret (v:=(aB 3:bX).v) ?_ rfl (nL M3.out A3.out F3.out HN.out (by omega) HR.out);rw[bZ rfl];simp[asAddr,Result.andThen,Act.put,aV (A3.out.row _)]
 have hd4:decide (4<=pr)=false:=decide_eq_false h4;have hlv:(v.ps pr.toNat).live=false:=by
  rcases hp with hp|hp|hp
  ·exact absurd hp h0
  ·exact absurd hp h4
  ·exact hp
 obtain⟨k,rfl⟩:=Int.eq_ofNat_of_zero_le (show 0<=pr by omega);have hk4:k<4:=by omega
 have hki:(k:Int)<4:=by omega
 have hk0:(0:Int)<=(k:Int):=by omega
 rw[show(Int.toNat (k:Int))=k by simp] at hlv;have hd5:decide (4<=k)=false:=decide_eq_false (by omega);clear hp h0 h4;go_enter Tryz.func18,Tryz.ntmps18;go_upto_region 8 with fail
 rw[<-HW1.out];clear c0;have c1:w1.cell? ⟨w.heap.size,1,none⟩=some (.int .i64 k):=by rw[O1.out.cell];exact OP.out
 have l1:w.heap.size<w1.heap.size:=O1.out.lt;have gc:∀(d:Nat) (os:Array Obj) (b o:Nat),b<w1.heap.size->(grow (redrawn w1 d) os).cell? ⟨b,o,none⟩=w1.cell? ⟨b,o,none⟩:=λd os b o h=>(below_regrown _ d os).cell (p:=⟨b,o,none⟩) h;have lm:=M1.out.size;have cl:w1.cell? ⟨m,69+k*11,none⟩=some (.bool false):=by rw[M1.out.Xt hk4,hlv]
 refine fK [] (by kernel_rfl) (by kernel_rfl) ?_;intro V hV;iterate 12 (refine rq rfl rfl ?_;go_big_quiet_step(fail);refine wpQuiet_nil ?_)
 refine rn ⟨m,0,none⟩ (by kernel_rfl) rfl rfl ?_;go_big_quiet_step(fail);refine wpQuiet_nil ?_;iterate 7 (refine rq rfl rfl ?_;go_big_quiet_step(fail);refine wpQuiet_nil ?_)
 refine rend ?_;intro w3 hb3 hf;clear hf hV gc c1 l1 lm cl hlv;have A3:=hZ (A1.out.below hb3);have O3:=hZ (O1.out.below hb3);have M3:=hZ (M1.out.below hb3);have F3:=hZ (F1.out.trans (aN.of M1.out.hN hb3));have K3:=hZ (K1.out.trans (hb3.mono K1.out.size));clear hb3;go_wp2_with(((with_reducible refine fM bN (w.heap.size+1) (nA (aB 3)) ?_ ?_ A3.out rfl rfl (bI _) ?_);rfl;rfl))
 try simp only[Exit.inBlock,Exit.then]
 refine bodyPost_ret (v:=(aB 3:bX).v) ?_ rfl (nL M3.out A3.out F3.out HN.out (by omega) HR.out);rw[bZ rfl];simp[asAddr,Result.andThen,Act.put,aV (A3.out.row _)]
theorem aH6 {w:World} {N m r t u c:Nat} {Z:Nat->Prop} {cs:Array Value} {v:Vm} (h:Mo w N Z m r t u c cs v) (o:aL) (ho:o.fits) (hk:1<=o.kind/\o.kind<14) (h0:0<=o.proc) (h4:o.proc<4) (hl:(v.ps o.proc.toNat).live=true) (hL:aNH v o):
 Calls Tryz.prog 18 #[.pointer (some ⟨m,0,none⟩),.agg (aZ o)] w (Ga N Z m r t (iQ v o) w):=by
 have HD:Hid (iQ v o=if o.kind<=4 then tC v o
  else if o.kind<=7 then(let r:=lK (v.ps o.proc.toNat).rg (v.ps o.proc.toNat).ks o
   if r.2.err=0 then(Eu v o.proc.toNat r.1,r.2) else(v,r.2))
  else if o.kind=8 then lD v o.proc.toNat
  else if o.kind=9 then(jM v o.proc.toNat,aB 0)
  else o7 v o):=hZ (by
   unfold iQ;rw[if_neg (by omega),if_neg (by omega),if_neg (by rintro(h|h|h);omega;omega;rw[hl] at h;cases h)]
   rfl)
 have Dc:Hid (o.kind<=4->∀W u c cs,Mo W N (λb=>Z b\/b=w.heap.size+1) m r t u c cs v->Calls Tryz.prog 39 #[.pointer (some ⟨m,0,none⟩),.agg (aZ o)] W (Ga N (λb=>Z b\/b=w.heap.size+1) m r t (tC v o) W)):=hZ (λh5 W u c cs hM=>aEV hM o ho h0 h4 ⟨hk.1,h5⟩ (hL.sh hk.1 h5));have Jr:Hid (10<=o.kind->∀W u c cs,Mo W N (λb=>Z b\/b=w.heap.size+1) m r t u c cs v->Calls Tryz.prog 43 #[.pointer (some ⟨m,0,none⟩),.agg (aZ o)] W (Ga N (λb=>Z b\/b=w.heap.size+1) m r t (o7 v o) W)):=hZ (λh5 W u c cs hM=>aEW hM o ho h0 h4 (hL.ss h5 (by omega)) (hL.ts h5 (by omega)));obtain⟨k,hpk⟩:∃k:Nat,o.proc=k:=⟨o.proc.toNat,by omega⟩;have hpn:o.proc.toNat=k:=by rw[hpk];rfl
 rw[hpn] at HD hl;have hk4:k<4:=by omega
 have Ti:Hid (o.kind=8->∀W u c cs,Mo W N (λb=>Z b\/b=w.heap.size+1) m r t u c cs v->Calls Tryz.prog 41 #[.pointer (some ⟨m,0,none⟩),.int .i64 k] W (Ga N (λb=>Z b\/b=w.heap.size+1) m r t (lD v k) W)):=hZ (λh5 W u c cs hM=>aGj hM hk4 (hL.fk h5).1 (by rw[<-hpn];exact(hL.fk h5).2));have Tj:Hid (o.kind=9->∀W u c cs,Mo W N (λb=>Z b\/b=w.heap.size+1) m r t u c cs v->Calls Tryz.prog 42 #[.pointer (some ⟨m,0,none⟩),.int .i64 k] W (Gv N (λb=>Z b\/b=w.heap.size+1) m r t (jM v k) W)):=hZ (λh5 W u c cs hM=>aGk hM hk4 (by rw[<-hpn];exact hL.ex h5));obtain⟨vx,hvx,hrt⟩:=h.V.rg k hk4;have Qr:=hZ hvx;have Di:=hZ (h.V.ks k hk4);have Tm:=hZ h.V.size;obtain⟨r,hr⟩:∃r,r=lK (v.ps k).rg (v.ps k).ks o:=⟨_,rfl⟩;have HHD:Hid (∀(w':World),Below w.heap.size w w'->Calls Tryz.prog 40 #[vx,.agg (kA (v.ps k).ks),.agg (aZ o)] w' λe w''=>e=.returned (.tuple #[.agg (kA r.1),.agg (nA r.2)])/\Below w'.heap.size w' w''):=hZ (by rw[hr];exact λw' hb=>(aIZ (hrt.rv.below hb) (v.ps k).ks o ho).mono λe w2 h=>h);rw[<-hr] at HD;obtain⟨KK,hKK⟩:∃KK,KK=(v.ps k).ks:=⟨_,rfl⟩;rw[<-hKK] at HHD Di;clear hvx hrt hr hKK hL;have hW1:Below w.heap.size w ((w.alloc (.cells (aZ o) 26)).alloc (.cells #[.int .i64 0,.int .i64 0,.int .i64 0,.int .i64 0] 35)):=(aD _ _).alloc (by simp) _;have qZ:Bx ((w.alloc (.cells (aZ o) 26)).alloc (.cells #[.int .i64 0,.int .i64 0,.int .i64 0,.int .i64 0] 35)) w.heap.size 26 (aZ o):=(Bx.new _ _ _).below (aD _ _);have hA1:Bx ((w.alloc (.cells (aZ o) 26)).alloc (.cells #[.int .i64 0,.int .i64 0,.int .i64 0,.int .i64 0] 35)) (w.heap.size+1) 35 #[.int .i64 0,.int .i64 0,.int .i64 0,.int .i64 0]:=by
  have:=Bx.new (w.alloc (.cells (aZ o) 26)) 35 #[.int .i64 0,.int .i64 0,.int .i64 0,.int .i64 0];rwa[World.size_alloc] at this
 obtain⟨w1,hw1⟩:∃w1,w1=((w.alloc (.cells (aZ o) 26)).alloc (.cells #[.int .i64 0,.int .i64 0,.int .i64 0,.int .i64 0] 35)):=⟨_,rfl⟩;have HW1:=hZ hw1;rw[<-hw1] at hW1 qZ hA1;have K1:=hZ hW1;have O1:=hZ qZ;have A1:=hZ hA1;have M1:=hZ (h.fresh (g:=w.heap.size+1) hW1 (by omega) hA1.lt);have F1:=hZ (aN.of h.hN hW1);have HN:=hZ h.hN;have c0:((w.alloc (.cells (aZ o) 26)).alloc (.cells #[.int .i64 0,.int .i64 0,.int .i64 0,.int .i64 0] 35)).cell? ⟨w.heap.size,0,none⟩=some (.int .i64 o.kind):=by rw[<-hw1,O1.out.cell];rfl
 have OP:Hid ((aZ o)[1]? =some (.int .i64 o.proc)):=hZ rfl;have OC:Hid ((aZ o)[3]? =some (.int .i64 o.count)):=hZ rfl;have OK:Hid ((aZ o)[0]? =some (.int .i64 o.kind)):=hZ rfl;have mY:Hid ((aZ o).size=12):=hZ rfl;clear h hw1 hW1 qZ hA1;generalize iQ v o=rs at*;obtain⟨kd,hkd⟩:∃kd,kd=o.kind:=⟨_,rfl⟩;rw[<-hkd] at c0 OK hk HD Dc Jr Ti Tj;rw[hpk] at OP;clear hkd OC hpk hpn h0 h4;obtain⟨oA,rU⟩:∃oA,oA=aZ o:=⟨_,rfl⟩;rw[<-rU] at HW1 O1 c0 OP OK mY HHD Dc Jr⊢;obtain⟨sv,hsv⟩:∃sv,sv=tC v o:=⟨_,rfl⟩;obtain⟨lv,aI2⟩:∃lv,lv=o7 v o:=⟨_,rfl⟩;obtain⟨fv,hfv⟩:∃fv,fv=lD v k:=⟨_,rfl⟩;rw[<-hsv,<-aI2,<-hfv] at HD;rw[<-hsv] at Dc;rw[<-aI2] at Jr;rw[<-hfv] at Ti;clear rU ho hsv aI2 hfv;obtain⟨nk,na⟩:=r;obtain⟨sU,sa⟩:=sv;obtain⟨lU,la⟩:=lv;obtain⟨fU,fa⟩:=fv;simp only at HHD HD;have hk1:decide (kd<1)=false:=decide_eq_false (by omega);have hk2:decide (14<kd)=false:=decide_eq_false (by omega);have hk3:(kd==14)=false:=by rw[beq_eq_false_iff_ne];omega
 have hki:(k:Int)<4:=by omega
 have hk0:(0:Int)<=(k:Int):=by omega
 have hd:decide ((k:Int)<0)=false:=decide_eq_false (by omega);have hd4:decide (4<=(k:Int))=false:=decide_eq_false (by omega);have hd5:decide (4<=k)=false:=decide_eq_false (by omega);have hlv:=hl;clear hl;go_enter Tryz.func18,Tryz.ntmps18;go_upto_region 8 with fail
 rw[<-HW1.out];clear c0;have c1:w1.cell? ⟨w.heap.size,1,none⟩=some (.int .i64 k):=by rw[O1.out.cell];exact OP.out
 have l1:w.heap.size<w1.heap.size:=O1.out.lt;have gc:∀(d:Nat) (os:Array Obj) (b o:Nat),b<w1.heap.size->(grow (redrawn w1 d) os).cell? ⟨b,o,none⟩=w1.cell? ⟨b,o,none⟩:=λd os b o h=>(below_regrown _ d os).cell (p:=⟨b,o,none⟩) h;have lm:=M1.out.size;have cl:w1.cell? ⟨m,69+k*11,none⟩=some (.bool true):=by rw[M1.out.Xt hk4,hlv]
 refine fK [] (by kernel_rfl) (by kernel_rfl) ?_;intro V hV;iterate 12 (refine rq rfl rfl ?_;go_big_quiet_step(fail);refine wpQuiet_nil ?_)
 refine rn ⟨m,0,none⟩ (by kernel_rfl) rfl rfl ?_;go_big_quiet_step(fail);refine wpQuiet_nil ?_;iterate 7 (refine rq rfl rfl ?_;go_big_quiet_step(fail);refine wpQuiet_nil ?_)
 refine rend ?_;intro w3 hb3 hf;clear hf hV gc c1 l1 lm cl hlv;have A3:=hZ (A1.out.below hb3);have O3:=hZ (O1.out.below hb3);have M3:=hZ (M1.out.below hb3);have F3:=hZ (F1.out.trans (aN.of M1.out.hN hb3));have K3:=hZ (K1.out.trans (hb3.mono K1.out.size));clear hb3;have c0:=(O3.out.cell 0).trans OK.out;have c1:w3.cell? ⟨w.heap.size,1,none⟩=some (.int .i64 (k:Int)):=by rw[O3.out.cell];exact OP.out
 have l0:w.heap.size<w3.heap.size:=O3.out.lt;have hkk:(kd=1\/kd=2\/kd=3\/kd=4)\/(kd=5\/kd=6\/kd=7)\/kd=8\/kd=9\/(kd=10\/kd=11\/kd=12\/kd=13):=by omega
 clear hk hk1 hk2 hk3 hd hd4 hd5;rcases hkk with hkk|hkk|rfl|rfl|hkk
 ·have HR:Hid (rs=(sU,sa)):=hZ (by rw[HD.out,if_pos (by omega)])
  have HC:=hZ (Dc.out (by omega) w3 u c cs M3.out);clear HD Dc Jr Ti Tj HHD Qr Di Tm;rcases hkk with rfl|rfl|rfl|rfl
  all_goals
   go_wp2_with(first
    |((with_reducible refine qW Tryz.underlying26 rfl kY w.heap.size 0 oA ?_ ?_ O3.out (Sub.all _) mY.out ?_);rfl;rfl)
    |(go_at_call 39;refine HC.out.mono ?_;rintro e w5 ⟨rfl,⟨u5,c5,cs5,kH⟩,gY⟩;have M5:=hZ kH;have F5:=hZ (F3.out.trans gY);have A5:=hZ (A3.out.bM gY (by decide) (by decide) (by decide));clear kH gY)
    |((with_reducible refine fM bN (w.heap.size+1) (nA sa) ?_ ?_ A5.out rfl rfl (bI _) ?_);rfl;rfl))
   try simp only[Exit.inBlock,Exit.then]
   refine bodyPost_ret (v:=(sa:bX).v) ?_ rfl (nL M5.out A5.out F5.out HN.out (by omega) HR.out);rw[bZ rfl];simp[asAddr,Result.andThen,Act.put,aV (A5.out.row _)]
 ·have HR0:Hid (rs=if na.err=0 then(Eu v k nk,na) else(v,na)):=hZ (by rw[HD.out,if_neg (by omega),if_pos (by omega)])
  have NA0:Hid ((nA na)[0]? =some (.int .i64 na.err)):=hZ rfl;have Fs:Hid ((nA na).size=4):=hZ rfl;have HK8:Hid ((kA nk).size=8):=hZ rfl;have HZX:Hid (69+k*11+3+8<=cs.size):=hZ (by rw[Tm.out];omega);clear HD Dc Jr Ti Tj;rcases hkk with rfl|rfl|rfl
  all_goals
   have lm:=M3.out.size;go_upto_region 19 with fail
   have gc:∀(d:Nat) (os:Array Obj) (b o:Nat),b<w3.heap.size->(grow (redrawn w3 d) os).cell? ⟨b,o,none⟩=w3.cell? ⟨b,o,none⟩:=λd os b o h=>(below_regrown _ d os).cell (p:=⟨b,o,none⟩) h;refine fK [] (by kernel_rfl) (by kernel_rfl) ?_;intro V hV;iterate 3 (refine rq rfl rfl ?_;go_big_quiet_step(fail);refine wpQuiet_nil ?_)
   refine rn ⟨m,0,none⟩ (by kernel_rfl) rfl rfl ?_;go_big_quiet_step(fail);refine wpQuiet_nil ?_;iterate 3 (refine rq rfl rfl ?_;go_big_quiet_step(fail);refine wpQuiet_nil ?_)
   refine rend ?_;intro w5 hb5 hf;clear hf hV gc c0 c1 l0 lm;have A5:=hZ (A3.out.below hb5);have O5:=hZ (O3.out.below hb5);have M5:=hZ (M3.out.below hb5);have F5:=hZ (F3.out.trans (aN.of M3.out.hN hb5));have K5:=hZ (K3.out.trans (hb5.mono K3.out.size));clear hb5;have X5:=hZ M5.out.X;have cv:w5.cell? ⟨m,69+k*11+2,none⟩=some vx:=by rw[X5.out.cell];exact Qr.out
   have lv9:m<w5.heap.size:=X5.out.lt;have gc:∀(d:Nat) (os:Array Obj) (b o:Nat),b<w5.heap.size->(grow (redrawn w5 d) os).cell? ⟨b,o,none⟩=w5.cell? ⟨b,o,none⟩:=λd os b o h=>(below_regrown _ d os).cell (p:=⟨b,o,none⟩) h;have hL1:∀cs',(40,cs')∈ [((40:TypeId),kA nk),(35,nA na)]->cs'=kA nk:=λcs' h=>by simpa using h
   have hL2:∀cs',(35,cs')∈ [((40:TypeId),kA nk),(35,nA na)]->cs'=nA na:=λcs' h=>by simpa using h
   go_upto_region 20 with fail
   refine Iw (H8 w5.heap.size [(40,kA nk),(35,nA na)]) [dK.call 9 (.tuple #[.agg (kA nk),.agg (nA na)]),dK.box 13 40 8 (λcs' h=>by rw[hL1 cs' h];rfl),dK.box 14 35 4 (λcs' h=>by rw[hL2 cs' h];rfl),dK.st 15 13 40 (kA nk) hL1,dK.st 16 14 35 (nA na) hL2] (by kernel_rfl) (Lf (nR _)) (by kernel_rfl) (by kernel_rfl) ?_;intro V hV;have e9:V 9=.tuple #[.agg (kA nk),.agg (nA na)]:=hV 9;obtain⟨kb,e13⟩:∃b,V 13=.pointer (some ⟨b,0,none⟩):=hV 13;obtain⟨ab,e14⟩:∃b,V 14=.pointer (some ⟨b,0,none⟩):=hV 14;refine mq rfl rfl ?_;go_big_quiet_step(fail);refine wpQuiet_nil ?_;refine mn ⟨m,69+k*11,none⟩ (by kernel_rfl) rfl rfl ?_;go_big_quiet_step(fail);refine wpQuiet_nil ?_;iterate 3 (refine mq rfl rfl ?_;go_big_quiet_step(fail);refine wpQuiet_nil ?_)
   refine mn ⟨m,69+k*11,none⟩ (by kernel_rfl) rfl rfl ?_;go_big_quiet_step(fail);refine wpQuiet_nil ?_;refine mq rfl rfl ?_;go_big_quiet_step(fail);refine wpQuiet_nil ?_;refine mf (.agg (kA KK)) (by kernel_rfl) rfl (λw' hb hf=>nU rfl (lN Tryz.underlying40 rfl gX (X5.out.below hb) Di.out rfl)) ?_;go_big_quiet_step(fail);refine wpQuiet_nil ?_;refine mf (.agg oA) (by kernel_rfl) rfl (λw' hb hf=>nU rfl (lN Tryz.underlying26 rfl kY (O5.out.below hb) (Sub.all _) mY.out)) ?_;go_big_quiet_step(fail);refine wpQuiet_nil ?_;refine Cv (dK.call 9 _) (by kernel_rfl) rfl (λw' hb hf=> ?_) ?_
   ·refine Jn (f:=40) (args:= #[vx,.agg (kA KK),.agg oA]) ?_ (HHD.out w' (K5.out.trans (hb.mono K5.out.size)))
    go_simp
   go_big_quiet_step(fail);refine wpQuiet_nil ?_;simp only[e9];iterate 3 (refine mq rfl rfl ?_;go_big_quiet_step(fail);refine wpQuiet_nil ?_)
   refine Cv (dK.box 13 40 8 (λcs' h=>by rw[hL1 cs' h];rfl)) (by kernel_rfl) rfl (λw' hb hf=> ?_) ?_
   ·refine oD (w':=w'.alloc (.cells #[.bool false,.int .i64 0,.bool false,.int .i64 0,.bool false,.int .i64 0,.bool false,.int .i64 0] 40)) (v:=.pointer (some ⟨w'.heap.size,0,none⟩)) ?_ (.inl (aD _ _)) ⟨⟨_,rfl⟩,_,_,rfl,hb.size,Bx.new _ _ _,rfl⟩
    go_simp
   go_big_quiet_step(fail);refine wpQuiet_nil ?_;simp only[e13];refine Cv (dK.box 14 35 4 (λcs' h=>by rw[hL2 cs' h];rfl)) (by kernel_rfl) rfl (λw' hb hf=> ?_) ?_
   ·refine oD (w':=w'.alloc (.cells #[.int .i64 0,.int .i64 0,.int .i64 0,.int .i64 0] 35)) (v:=.pointer (some ⟨w'.heap.size,0,none⟩)) ?_ (.inl (aD _ _)) ⟨⟨_,rfl⟩,_,_,rfl,hb.size,Bx.new _ _ _,rfl⟩
    go_simp
   go_big_quiet_step(fail);refine wpQuiet_nil ?_;simp only[e14];refine Cv (dK.st 15 13 40 (kA nk) hL1) (by kernel_rfl) rfl (λw' hb hf=> ?_) ?_
   ·obtain⟨b2,z,hab,hag,BA,hz⟩:∃b z,Value.pointer (some ⟨kb,0,none⟩)=.pointer (some ⟨b,0,none⟩)/\w5.heap.size<=b/\Bx w' b 40 z/\z.size=8:=hf _ (List.Mem.tail _ (List.Mem.head _)) (by kernel_rfl)
    cases hab;exact oF gX kb (kA nk) rfl rfl BA hz rfl (qY _) (.inr ⟨kb,_,kA nk,z,List.mem_cons_self,hag,BA,hz,rfl⟩) ⟨rfl,kb,e13,BA.row _⟩
   go_big_quiet_step(fail);refine wpQuiet_nil ?_;refine Cv (dK.st 16 14 35 (nA na) hL2) (by kernel_rfl) rfl (λw' hb hf=> ?_) ?_
   ·obtain⟨b2,z,hab,hag,BA,hz⟩:∃b z,Value.pointer (some ⟨ab,0,none⟩)=.pointer (some ⟨b,0,none⟩)/\w5.heap.size<=b/\Bx w' b 35 z/\z.size=4:=hf _ (List.Mem.tail _ (List.Mem.head _)) (by kernel_rfl)
    cases hab;exact oF bN ab (nA na) rfl rfl BA hz rfl (bI _) (.inr ⟨ab,_,nA na,z,List.mem_cons_of_mem _ List.mem_cons_self,hag,BA,hz,rfl⟩) ⟨rfl,ab,e14,BA.row _⟩
   go_big_quiet_step(fail);refine wpQuiet_nil (mend ?_);intro w6 hb6 hf;obtain⟨b2,hab,BA⟩:∃b,V 14=.pointer (some ⟨b,0,none⟩)/\Bx w6 b 35 (nA na):=hf _ (List.Mem.head _);rw[e14] at hab;cases hab;obtain⟨b3,hab,BK⟩:∃b,V 13=.pointer (some ⟨b,0,none⟩)/\Bx w6 b 40 (kA nk):=hf _ (List.Mem.tail _ (List.Mem.head _));rw[e13] at hab;cases hab;clear hf hV gc e9 e13 e14 cv lv9 hL1 hL2;have BA6:=hZ BA;have BK6:=hZ BK;have A6:=hZ (A5.out.below hb6);have M6:=hZ (M5.out.below hb6);have F6:=hZ (F5.out.trans (aN.of M5.out.hN hb6));have X6:=hZ M6.out.X;clear hb6 BA BK;have ca:w6.cell? ⟨ab,0,none⟩=some (.int .i64 na.err):=by rw[BA6.out.cell];exact NA0.out
   have la9:ab<w6.heap.size:=BA6.out.lt;by_cases he:na.err=0
   ·have HR2:=hZ (HR0.out.trans (if_pos he))
    rw[he] at ca;have M7:=hZ (M6.out.aNW hk4 nk);have F7:=hZ (M6.out.aAD (69+k*11+3) (kA nk).toList);obtain⟨w7,hw7⟩:∃w7,w7=w6.setCells m (69+k*11+3) (kA nk).toList:=⟨_,rfl⟩;have HW7:=hZ hw7;rw[<-hw7] at M7 F7;clear hw7;have A7:=hZ (A6.out.bM F7.out (by decide) (by decide) (by decide));have BA7:=hZ (BA6.out.bM F7.out (by decide) (by decide) (by decide));have F8:=hZ (F6.out.trans F7.out)
    go_wp2_with(first
     |((with_reducible refine qW Tryz.underlying40 rfl gX kb 0 (kA nk) ?_ ?_ BK6.out (Sub.all _) HK8.out ?_);rfl;rfl)
     |((with_reducible refine stM gX m (69+k*11+3) (kA nk) ?_ ?_ X6.out HZX.out HK8.out (qY _) ?_);rfl;rfl;rw[<-HW7.out])
     |((with_reducible refine qW Tryz.underlying35 rfl bN ab 0 (nA na) ?_ ?_ BA7.out (Sub.all _) Fs.out ?_);rfl;rfl)
     |((with_reducible refine fM bN (w.heap.size+1) (nA na) ?_ ?_ A7.out rfl rfl (bI _) ?_);rfl;rfl))
    try simp only[Exit.inBlock,Exit.then]
    refine bodyPost_ret (v:=(na:bX).v) ?_ rfl (nL M7.out A7.out F8.out HN.out (by omega) HR2.out);rw[bZ rfl];simp[asAddr,Result.andThen,Act.put,aV (A7.out.row _)]
   ·have HR2:=hZ (HR0.out.trans (if_neg he))
    have hne:(na.err==0)=false:=by rw[beq_eq_false_iff_ne];exact he
    go_wp2_with(first
     |((with_reducible refine qW Tryz.underlying35 rfl bN ab 0 (nA na) ?_ ?_ BA6.out (Sub.all _) Fs.out ?_);rfl;rfl)
     |((with_reducible refine fM bN (w.heap.size+1) (nA na) ?_ ?_ A6.out rfl rfl (bI _) ?_);rfl;rfl))
    try simp only[Exit.inBlock,Exit.then]
    refine bodyPost_ret (v:=(na:bX).v) ?_ rfl (nL M6.out A6.out F6.out HN.out (by omega) HR2.out);rw[bZ rfl];simp[asAddr,Result.andThen,Act.put,aV (A6.out.row _)]
 ·have HR:Hid (rs=(fU,fa)):=hZ (by rw[HD.out,if_neg (by omega),if_neg (by omega),if_pos rfl])
  have HC:=hZ (Ti.out rfl w3 u c cs M3.out);clear HD Dc Jr Ti Tj HHD Qr Di Tm
  go_wp2_with(first
   |(go_at_call 41;refine HC.out.mono ?_;rintro e w5 ⟨rfl,⟨u5,c5,cs5,kH⟩,gY⟩;have M5:=hZ kH;have F5:=hZ (F3.out.trans gY);have A5:=hZ (A3.out.bM gY (by decide) (by decide) (by decide));clear kH gY)
   |((with_reducible refine fM bN (w.heap.size+1) (nA fa) ?_ ?_ A5.out rfl rfl (bI _) ?_);rfl;rfl))
  try simp only[Exit.inBlock,Exit.then]
  refine bodyPost_ret (v:=(fa:bX).v) ?_ rfl (nL M5.out A5.out F5.out HN.out (by omega) HR.out);rw[bZ rfl];simp[asAddr,Result.andThen,Act.put,aV (A5.out.row _)]
 ·have HR:Hid (rs=(jM v k,aB 0)):=hZ (by rw[HD.out,if_neg (by omega),if_neg (by omega),if_neg (by omega),if_pos rfl])
  have HC:=hZ (Tj.out rfl w3 u c cs M3.out);clear HD Dc Jr Ti Tj HHD Qr Di Tm
  go_wp2_with(first
   |(go_at_call 42;refine HC.out.mono ?_;rintro e w5 ⟨rfl,⟨u5,c5,cs5,kH⟩,gY⟩;have M5:=hZ kH;have F5:=hZ (F3.out.trans gY);have A5:=hZ (A3.out.bM gY (by decide) (by decide) (by decide));clear kH gY)
   |((with_reducible refine fM bN (w.heap.size+1) (nA (aB 0)) ?_ ?_ A5.out rfl rfl (bI _) ?_);rfl;rfl))
  try simp only[Exit.inBlock,Exit.then]
  refine bodyPost_ret (v:=(aB 0:bX).v) ?_ rfl (nL M5.out A5.out F5.out HN.out (by omega) HR.out);rw[bZ rfl];simp[asAddr,Result.andThen,Act.put,aV (A5.out.row _)]
 ·have HR:Hid (rs=(lU,la)):=hZ (by rw[HD.out,if_neg (by omega),if_neg (by omega),if_neg (by omega),if_neg (by omega)])
  have HC:=hZ (Jr.out (by omega) w3 u c cs M3.out);clear HD Dc Jr Ti Tj HHD Qr Di Tm;rcases hkk with rfl|rfl|rfl|rfl
  all_goals
   go_wp2_with(first
    |((with_reducible refine qW Tryz.underlying26 rfl kY w.heap.size 0 oA ?_ ?_ O3.out (Sub.all _) mY.out ?_);rfl;rfl)
    |(go_at_call 43;refine HC.out.mono ?_;rintro e w5 ⟨rfl,⟨u5,c5,cs5,kH⟩,gY⟩;have M5:=hZ kH;have F5:=hZ (F3.out.trans gY);have A5:=hZ (A3.out.bM gY (by decide) (by decide) (by decide));clear kH gY)
    |((with_reducible refine fM bN (w.heap.size+1) (nA la) ?_ ?_ A5.out rfl rfl (bI _) ?_);rfl;rfl))
   try simp only[Exit.inBlock,Exit.then]
   refine bodyPost_ret (v:=(la:bX).v) ?_ rfl (nL M5.out A5.out F5.out HN.out (by omega) HR.out);rw[bZ rfl];simp[asAddr,Result.andThen,Act.put,aV (A5.out.row _)]
theorem aKE {w:World} {N m r t u c:Nat} {Z:Nat->Prop} {cs:Array Value} {v:Vm} (h:Mo w N Z m r t u c cs v) (o:aL) (ho:o.fits) (hD:aJ9 v o):
 Calls Tryz.prog 18 #[.pointer (some ⟨m,0,none⟩),.agg (aZ o)] w (Ga N Z m r t (iQ v o) w):=by
 by_cases h1:o.kind<1\/14<o.kind
 ·exact aH7 h o ho h1
 by_cases h2:o.kind=14
 ·exact aL9 h o ho h2 (hD.rc h2)
 by_cases h3:o.proc<0\/4<=o.proc\/(v.ps o.proc.toNat).live=false
 ·exact aH5 h o ho (by omega) h3
 have hl:(v.ps o.proc.toNat).live=true:=by
  cases hl:(v.ps o.proc.toNat).live with
  |true=>rfl
  |false=>exact absurd (.inr (.inr hl)) h3
 exact aH6 h o ho (by omega) (by omega) (by omega) hl (hD.lv (by omega) (by omega) hl)
section
theorem aNU (m:Nat) (rV:m<=256) (w:World):Calls Tryz.prog 33 #[.int .i64 (m:Int)] w λe w'=>e=.returned (.slice (some ⟨w.heap.size,0,none⟩) ((m+1)/2) ((m+1)/2))/\w'=w.alloc (.cells (lM ((m+1)/2)) 5):=by
 have h2:¬256<(m:Int):=by omega
 have h1:¬(m:Int)<0:=by omega
 have hm:∀w,(Instr.makeSlice 58 (.int .i64 ((min (m:Int) 256+1)/2)) (.int .i64 ((min (m:Int) 256+1)/2))).run Tryz.prog w=.ok (.slice (some ⟨w.heap.size,0,none⟩) ((m+1)/2) ((m+1)/2)) (w.alloc (.cells (lM ((m+1)/2)) 5)):=λw=>by
  have:=aEn ((m+1)/2) (by omega) w;rwa[show(((m+1)/2:Nat):Int)=(min (m:Int) 256+1)/2 by omega] at this
 go_enter Tryz.func33,Tryz.ntmps33;go_wp2;go_ret;exact⟨rfl,rfl⟩
theorem aKJ (w:World):Calls Tryz.prog 33 #[.int .i64 256] w λe w'=>e=.returned (.slice (some ⟨w.heap.size,0,none⟩) 128 128)/\w'=w.alloc (.cells (lM 128) 5):=aNU 256 (nR _) w
def mM (r t d u:Nat) (pc:Array Value):Array Value:=
 #[.slice (some ⟨r,0,none⟩) 4096 4096,.slice (some ⟨t,0,none⟩) 128 128]++pc++(#[.slice (some ⟨d,0,none⟩) 64 64,.slice none 0 0]++(zV++zV++zV++zV)++ #[.slice (some ⟨u,0,none⟩) 64 64]++Array.replicate 64 (.bool false)++ #[.int .i64 0])
theorem aK1 (r t d u:Nat) (A:Option Addr) (n c:Nat) (w:World):(Instr.build 69 #[(0,.slice (some ⟨r,0,none⟩) 4096 4096),(1,.slice (some ⟨t,0,none⟩) 128 128),(2,.agg (qA (.slice A n c) zR)),(3,.slice (some ⟨d,0,none⟩) 64 64),(6,.slice (some ⟨u,0,none⟩) 64 64)]).run Tryz.prog w=.ok (.agg (mM r t d u (qA (.slice A n c) zR))) w:=by
 kernel_rfl
section
variable {r t d u:Nat} {pc:Array Value}
theorem aLr (h:pc.size=65):(mM r t d u pc).size=179:=by simp[mM,h,zV]
theorem aOp (h:pc.size=65):(mM r t d u pc)[0]? =some (.slice (some ⟨r,0,none⟩) 4096 4096)/\(mM r t d u pc)[1]? =some (.slice (some ⟨t,0,none⟩) 128 128):=by
 constructor<;>simp[mM,Array.getElem?_append]
theorem aMN (h:pc.size=65) {i:Nat} (hi:i<65):(mM r t d u pc)[2+i]? =pc[i]? :=by
 unfold mM;rw[Array.getElem?_append_left (by simp[h];omega),Array.getElem?_append_right (by simp)];simp
theorem Zb (h:pc.size=65) (i:Nat):(mM r t d u pc)[67+i]? =(#[.slice (some ⟨d,0,none⟩) 64 64,.slice none 0 0]++(zV++zV++zV++zV)++ #[.slice (some ⟨u,0,none⟩) 64 64]++Array.replicate 64 (.bool false)++ #[.int .i64 0]:Array Value)[i]? :=by
 unfold mM;rw[Array.getElem?_append_right (by simp[h])];simp[h]
theorem aNR {i:Nat} (hi:i<11) (k:Nat) (hk:k<4):(zV++zV++zV++zV)[k*11+i]? =zV[i]? :=by
 have hs:zV.size=11:=rfl;have:k=0\/k=1\/k=2\/k=3:=by omega
 rcases this with rfl|rfl|rfl|rfl
 ·rw[Array.getElem?_append_left (by simp[hs];omega),Array.getElem?_append_left (by simp[hs];omega),Array.getElem?_append_left (by omega)];simp
 ·rw[Array.getElem?_append_left (by simp[hs];omega),Array.getElem?_append_left (by simp[hs];omega),Array.getElem?_append_right (by omega),hs,show 1*11+i -11=i by omega]
 ·rw[Array.getElem?_append_left (by simp[hs];omega),Array.getElem?_append_right (by simp[hs])];simp[hs]
 ·rw[Array.getElem?_append_right (by simp[hs])];simp[hs]
theorem aFj (h:pc.size=65) {k i:Nat} (hk:k<4) (hi:i<11):(mM r t d u pc)[69+k*11+i]? =zV[i]? :=by
 have hs:zV.size=11:=rfl;rw[show 69+k*11+i=67+(2+(k*11+i)) by omega,Zb h];rw[Array.getElem?_append_left (by simp[hs];omega),Array.getElem?_append_left (by simp[hs];omega),Array.getElem?_append_left (by simp[hs];omega),Array.getElem?_append_right (by simp),<-aNR hi k hk];simp
theorem aOn (h:pc.size=65) {i:Nat} (hi:i<64):(mM r t d u pc)[114+i]? =some (.bool false):=by
 have hs:zV.size=11:=rfl;rw[show 114+i=67+(47+i) by omega,Zb h];rw[Array.getElem?_append_left (by simp[hs];omega),Array.getElem?_append_right (by simp[hs])];simp[hs,hi]
theorem aOo (h:pc.size=65):(mM r t d u pc)[67]? =some (.slice (some ⟨d,0,none⟩) 64 64)/\(mM r t d u pc)[68]? =some (.slice none 0 0)/\(mM r t d u pc)[113]? =some (.slice (some ⟨u,0,none⟩) 64 64)/\(mM r t d u pc)[178]? =some (.int .i64 0):=by
 have hs:zV.size=11:=rfl;refine⟨?_,?_,?_,?_⟩
 ·rw[show 67=67+0 from rfl,Zb h];simp[Array.getElem?_append]
 ·rw[show 68=67+1 from rfl,Zb h];simp[Array.getElem?_append]
 ·rw[show 113=67+46 from rfl,Zb h,Array.getElem?_append_left (by simp[hs]),Array.getElem?_append_left (by simp[hs]),Array.getElem?_append_right (by simp[hs])]
  simp only[Array.size_append,hs];rfl
 ·rw[show 178=67+111 from rfl,Zb h,Array.getElem?_append_right (by simp[hs])]
  simp only[Array.size_append,hs,Array.size_replicate];rfl
theorem aMO (h1:pc.all (·.oneCell')=true):(mM r t d u pc).all (·.oneCell')=true:=by
 unfold mM;simp only[Array.all_append,h1];have h2:(Array.replicate 64 (Value.bool false)).all (·.oneCell')=true:=by kernel_rfl
 simp only[h2];simp[Value.oneCell',zV]
end
theorem aFh (v:Value) (rs:Array Value):(qA v rs)[0]? =some v:=by unfold qA;rw[Array.getElem?_append_left (by simp)];rfl
theorem aNp {Z:Nat->Prop} {w:World} {m r t u:Nat} {x:Value} {c1 c2 c3 c4:Array Value} (hx:Ty w x) (h1:Bx w m 69 c1) (h2:Bx w r 5 c2) (h3:Bx w t 5 c3) (h4:Bx w u 4 c4) (hz:∀b off s n c,x=.slice (some ⟨b,off,s⟩) n c->0<n->¬Z b):Ap Z m r t u x:=λb off s n c e h0=>by
 obtain⟨cur,hb⟩:=hx b off s n c e h0;exact⟨Gm hb h1 (by decide),Gm hb h2 (by decide),Gm hb h3 (by decide),Gm hb h4 (by decide),hz b off s n c e h0⟩
theorem aL0 {w:World} {N b r t d u:Nat} {A:Option Addr} {n c:Nat} (nb:N<=b) (nr:N<=r) (nt:N<=t) (nu:N<=u) (hb:Bx w b 69 (mM r t d u (qA (.slice A n c) zR))) (hr:Bx w r 5 (lM 4096)) (ht:Bx w t 5 (lM 128)) (hu:Bx w u 4 (oM 64)) (hd:Bx w d 71 xE) (hv:Bv w (.slice A n c) (gJ λ_=>0).f) (hty:Ty w (.slice A n c)):
 Mo w N (λ_=>False) b r t u 64 (mM r t d u (qA (.slice A n c) zR)) cO:=by
 have hp:=aFg hv aBi;have hs:=hp.size;obtain⟨a0,a1⟩:=aOp (r:=r) (t:=t) (d:=d) (u:=u) hs;obtain⟨b0,b1,b2,b3⟩:=aOo (r:=r) (t:=t) (d:=d) (u:=u) hs;have nbr:=gP hb hr (by decide);have nbt:=gP hb ht (by decide);have nbu:=gP hb hu (by decide);refine⟨nb,nr,nt,nu,?_,λ_ h=>h.elim,hb,⟨by simp[cO],nR _,by decide,λ_=>⟨r,lM 4096,rfl,nr,hr,λi hi=>by rw[aEo _ _ hi];show _=some (Value.int .u8 ((List.replicate 4096 (0:Int)).getD i 0));rw[aCJ]⟩⟩,⟨by simp[cO],nR _,by decide,λ_=>⟨t,lM 128,rfl,nt,ht,λi hi=>by rw[aEo _ _ hi];show _=some (Value.int .u8 ((List.replicate 128 (0:Int)).getD i 0));rw[aCJ]⟩⟩,⟨by simp[cO],nR _,by decide,λ_=>⟨u,oM 64,rfl,nu,hu,λi x hi j v hj=> ?_⟩⟩,?_⟩
 ·rintro rfl
  unfold Bx at hr ht;rw[hr] at ht;injection ht with ht;injection ht with ht _;have:=congrArg Array.size ht;rw[R9,R9] at this;exact absurd this (by decide)
 ·obtain⟨h1,h2⟩:=List.getElem?_eq_some_iff.1 hi
  have h1':i<64:=by simpa[cO] using h1
  have hx:x=false:=List.eq_of_mem_replicate (n:=64) (List.mem_of_getElem? hi);subst hx;have hj0:j=0:=by
   have:=(List.getElem?_eq_some_iff.1 hj).1;simp[fB] at this;omega
  subst hj0;simp[fB] at hj;rw[Nat.mul_one,Nat.add_zero,aDf _ _ h1',<-hj]
 ·refine⟨aLr hs,aMO hp.one,a0,a1,⟨.slice A n c,?_,hv,aNp hty hb hr ht hu (λ_ _ _ _ _ _ _ h=>h),hty⟩,λi hi=> ?_,⟨some ⟨d,0,none⟩,64,List.replicate 64 zSv,b0,⟨by simp,by decide,λ_=>⟨d,0,rfl,hd.lt,λi x hi j v hj=> ?_⟩⟩,⟨by simp[cO],λi x s hx hs=> ?_⟩,λq o s e=> ?_⟩,⟨none,0,b1,⟨rfl,by decide,λh=>absurd h (by decide)⟩,λq o s e=>by cases e⟩,λk hk=> ?_,λk hk=> ?_,λk hk=>⟨.slice none 0 0,?_,⟨none,0,0,rfl,rfl,by omega,λh=>absurd h (Nat.lt_irrefl 0)⟩⟩,λk hk i x hx=> ?_,b2,λi hi=>aOn hs hi,b3⟩
  ·rw[show 2=2+0 from rfl,aMN hs (by decide)];exact aFh _ _
  ·rw[show 3+i=2+(i+1) by omega,aMN hs (by omega)];exact hp.at_ i hi
  ·rw[hd.cell,Nat.zero_add]
   obtain⟨h1,h2⟩:=List.getElem?_eq_some_iff.1 hi;have h1':i<64:=by simpa using h1
   have C8:j<3:=by have:=(List.getElem?_eq_some_iff.1 hj).1;rwa[kK] at this
   unfold xE;rw[List.getElem?_toArray,vM (f:=fS) kK (List.replicate 64 zSv) i x hi j C8];exact hj
  ·obtain rfl:=List.eq_of_mem_replicate (List.mem_of_getElem? hx)
   have hs':s∈List.replicate 64 (default:gT):=List.mem_of_getElem? hs;obtain rfl:=List.eq_of_mem_replicate hs';exact⟨rfl,⟨rfl,Nat.zero_le _,λh=>absurd h (Nat.lt_irrefl 0)⟩,⟨rfl,Nat.zero_le _,λh=>absurd h (Nat.lt_irrefl 0)⟩,Nat.zero_le _,Nat.zero_le _,by show eG 0;unfold eG;omega,λh=>absurd h (Nat.lt_irrefl 0),λh=>absurd h (Nat.lt_irrefl 0)⟩
  ·cases e
   exact⟨gP hd hb (by decide),gP hd hr (by decide),gP hd ht (by decide),gP hd hu (by decide),λh=>h⟩
  ·rw[show 69+k*11=69+k*11+0 by omega,aFj hs hk (by decide)];rfl
  ·rw[aFj hs hk (by decide)];rfl
  ·rw[aFj hs hk (by decide)];rfl
  ·have hi:=sK hx
   rw[show 69+k*11+3+i=69+k*11+(3+i) by omega,aFj hs hk (by omega),<-hx];have:i=0\/i=1\/i=2\/i=3\/i=4\/i=5\/i=6\/i=7:=by omega
   rcases this with rfl|rfl|rfl|rfl|rfl|rfl|rfl|rfl<;>rfl
section
variable {P:Program} {dst:Option Tmp} {T type:TypeId} {pos:String} {after:Array Edge} {guard:Option (Nat×Bool)} {a:Act} {w:World} {v:Value}
theorem aNu {i1 i2 i3 i4 i5:Nat} {x1 x2 x3 x4 x5:Operand} {u1 u2 u3 u4 u5:Value} (h1:a.eval x1=u1) (h2:a.eval x2=u2) (h3:a.eval x3=u3) (h4:a.eval x4=u4) (h5:a.eval x5=u5) (h:(Instr.build T #[(i1,u1),(i2,u2),(i3,u3),(i4,u4),(i5,u5)]).run P w=.ok v w):(execOp a.eval ⟨dst,.build T #[(i1,x1),(i2,x2),(i3,x3),(i4,x4),(i5,x5)],type,pos,after,guard⟩).run P w=.ok (.value v) w:=by
 unfold execOp;simp only[List.map_toArray,List.map_cons,List.map_nil,h1,h2,h3,h4,h5,Sem.run_bind,h,Result.andThen_ok,Sem.run_pure]
end
def Fz (B:Nat) (n c:Nat) (T:TypeId) (z:Array Value) (v:Value) (w:World):Prop:=∀g,v=.slice (some ⟨g,0,none⟩) n c->B<=g/\Bx w g T z
theorem Fz.keep {B n c:Nat} {T:TypeId} {z:Array Value} (v:Value) (w w':World) (h:Fz B n c T z v w) (hb:Below w.heap.size w w'):Fz B n c T z v w':=λg e=>⟨(h g e).1,(h g e).2.below hb⟩
def FPl (v:Value) (w:World):Prop:=∀A n c,v=.agg (qA (.slice A n c) zR)->Bv w (.slice A n c) (gJ λ_=>0).f/\Ty w (.slice A n c)
theorem FPl.keep (v:Value) (w w':World) (h:FPl v w) (hb:Below w.heap.size w w'):FPl v w':=λA n c e=>⟨(h A n c e).1.below hb,(h A n c e).2.below hb⟩
def FMa (N:Nat) (v:Value) (w:World):Prop:=∃m r t,v=.pointer (some ⟨m,0,none⟩)/\Mr w N (λ_=>False) m r t cO
theorem aMJ {w:World} {cs:Array Value} (h:iY w cs (gJ λ_=>0)):∃A n c,cs=qA (.slice A n c) zR/\Bv w (.slice A n c) (gJ λ_=>0).f:=by
 obtain⟨v,h1,h2⟩:=h.list;obtain⟨A,n,c,rfl,q⟩:=h2;refine⟨A,n,c,?_,⟨A,n,c,rfl,q⟩⟩;apply Array.ext_getElem?;intro i;by_cases e:i=0
 ·subst e;rw[h1,aFh]
 ·by_cases h65:i<65
  ·have:=h.at_ (i -1) (by omega)
   rw[show i -1+1=i by omega] at this;rw[this];unfold qA;rw[Array.getElem?_append_right (by simp;omega)];simp only[List.size_toArray,List.length_cons,List.length_nil];exact(aBi.at_ (i -1) (by omega)).symm
  ·rw[Array.getElem?_eq_none (by rw[h.size];omega),Array.getElem?_eq_none (by simp[qA,zR];omega)]
def aHZ (w:World) (e:Ending) (w':World):Prop:=∃m r t,e=.returned (.pointer (some ⟨m,0,none⟩))/\Mr w' w.heap.size (λ_=>False) m r t yX/\Below w.heap.size w w'
theorem aJD {f:Nat} (hT:vE cO f) (w:World):Calls Tryz.prog 17 #[] w (aHZ w):=by
 have oN:=hZ hT;clear hT;have HP:=hZ (λW=>aMH W);have HKF:=hZ (λW=>aA5 W);go_enter Tryz.func17,Tryz.ntmps17;go_upto_region 1 with fail
 refine fK [Sp.gen 0 (λv=>∃g,v=.slice (some ⟨g,0,none⟩) 4096 4096) (Fz w.heap.size 4096 4096 5 (lM 4096)) ⟨_,0,rfl⟩ Fz.keep,Sp.gen 1 (λv=>∃g,v=.slice (some ⟨g,0,none⟩) 128 128) (Fz w.heap.size 128 128 5 (lM 128)) ⟨_,0,rfl⟩ Fz.keep,Sp.gen 2 (λv=>∃A n c,v=.agg (qA (.slice A n c) zR)) FPl ⟨_,none,0,0,rfl⟩ FPl.keep,Sp.gen 3 (λv=>∃g,v=.slice (some ⟨g,0,none⟩) 64 64) (Fz w.heap.size 64 64 71 xE) ⟨_,0,rfl⟩ Fz.keep,Sp.gen 4 (λv=>∃g,v=.slice (some ⟨g,0,none⟩) 64 64) (Fz w.heap.size 64 64 4 (oM 64)) ⟨_,0,rfl⟩ Fz.keep,Sp.gen 6 (λv=>∃g,v=.pointer (some ⟨g,0,none⟩)) (FMa w.heap.size) ⟨_,0,rfl⟩ (λv w w' h hb=>by obtain⟨m,r,t,h1,h2⟩:=h;exact⟨m,r,t,h1,h2.below hb⟩)] (by kernel_rfl) (by kernel_rfl) ?_;intro V hV;obtain⟨r,e0⟩:∃g,V 0=.slice (some ⟨g,0,none⟩) 4096 4096:=hV 0;obtain⟨t,e1⟩:∃g,V 1=.slice (some ⟨g,0,none⟩) 128 128:=hV 1;obtain⟨A,n,c,e2⟩:∃A n c,V 2=.agg (qA (.slice A n c) zR):=hV 2;obtain⟨d,e3⟩:∃g,V 3=.slice (some ⟨g,0,none⟩) 64 64:=hV 3;obtain⟨u,e4⟩:∃g,V 4=.slice (some ⟨g,0,none⟩) 64 64:=hV 4;obtain⟨b,e6⟩:∃g,V 6=.pointer (some ⟨g,0,none⟩):=hV 6;refine mQ (Sp.gen 0 _ _ _ _) (by kernel_rfl) rfl (λw' hb hf=> ?_) ?_
 ·refine bY (f:=32) (args:= #[]) (by go_simp) ((aIw w').mono ?_)
  rintro e w'' ⟨rfl,rfl⟩;exact⟨_,rfl,aD _ _,⟨_,rfl⟩,λg e=>by cases e;exact⟨hb.size,Bx.new _ _ _⟩⟩
 go_big_quiet_step(fail);refine wpQuiet_nil ?_;simp only[e0];refine mQ (Sp.gen 1 _ _ _ _) (by kernel_rfl) rfl (λw' hb hf=> ?_) ?_
 ·refine bY (f:=33) (args:= #[.int .i64 256]) (by go_simp) ((aKJ w').mono ?_)
  rintro e w'' ⟨rfl,rfl⟩;exact⟨_,rfl,aD _ _,⟨_,rfl⟩,λg e=>by cases e;exact⟨hb.size,Bx.new _ _ _⟩⟩
 go_big_quiet_step(fail);refine wpQuiet_nil ?_;simp only[e1];refine mQ (Sp.gen 2 _ _ _ _) (by kernel_rfl) rfl (λw' hb hf=> ?_) ?_
 ·refine bY (f:=34) (args:= #[]) (by go_simp) ((HP.out w').mono ?_)
  rintro e w'' ⟨cs,rfl,hpl,hfa,hbl⟩;obtain⟨A,n,c,rfl,hbv⟩:=aMJ hpl;refine⟨_,rfl,hbl,⟨A,n,c,rfl⟩,λA' n' c' e=> ?_⟩;have e2:(Value.slice A n c)=.slice A' n' c':=by
   injection e with e;have:=congrArg (λx:Array Value=>x[0]?) e;simp only[aFh] at this;exact Option.some.inj this
  cases e2;exact⟨hbv,(hfa _ (aFh _ _)).2⟩
 go_big_quiet_step(fail);refine wpQuiet_nil ?_;simp only[e2];refine mQ (Sp.gen 3 _ _ _ _) (by kernel_rfl) rfl (λw' hb hf=> ?_) ?_
 ·refine bY (f:=35) (args:= #[]) (by go_simp) ((aIn w').mono ?_)
  rintro e w'' ⟨rfl,rfl⟩;exact⟨_,rfl,aD _ _,⟨_,rfl⟩,λg e=>by cases e;exact⟨hb.size,Bx.new _ _ _⟩⟩
 go_big_quiet_step(fail);refine wpQuiet_nil ?_;simp only[e3];refine mQ (Sp.gen 4 _ _ _ _) (by kernel_rfl) rfl (λw' hb hf=> ?_) ?_
 ·refine Ml (w':=w'.alloc (.cells (oM 64) 4)) (v:=.slice (some ⟨w'.heap.size,0,none⟩) 64 64) ?_ (aD _ _) ⟨⟨_,rfl⟩,λg e=>by cases e;exact⟨hb.size,Bx.new _ _ _⟩⟩
  have hm:∀w,(Instr.makeSlice 66 (.int .i64 64) (.int .i64 64)).run Tryz.prog w=.ok (.slice (some ⟨w.heap.size,0,none⟩) 64 64) (w.alloc (.cells (oM 64) 4)):=λw=>aHa 64 (by omega) w;go_simp
 go_big_quiet_step(fail);refine wpQuiet_nil ?_;simp only[e4];refine rf (.agg (mM r t d u (qA (.slice A n c) zR))) (by kernel_rfl) rfl (λw' hb hf=>aNu rfl rfl rfl rfl rfl (aK1 r t d u A n c w')) ?_;go_big_quiet_step(fail);refine wpQuiet_nil ?_;refine mQ (Sp.gen 6 _ _ _ _) (by kernel_rfl) rfl (λw' hb hf=> ?_) ?_
 ·have f4:Fz w.heap.size 64 64 4 (oM 64) (.slice (some ⟨u,0,none⟩) 64 64) w':=hf _ (List.Mem.head _) (by kernel_rfl)
  have f3:Fz w.heap.size 64 64 71 xE (.slice (some ⟨d,0,none⟩) 64 64) w':=hf _ (List.Mem.tail _ (List.Mem.head _)) (by kernel_rfl);have f2:FPl (.agg (qA (.slice A n c) zR)) w':=hf _ (List.Mem.tail _ (List.Mem.tail _ (List.Mem.head _))) (by kernel_rfl);have f1:Fz w.heap.size 128 128 5 (lM 128) (.slice (some ⟨t,0,none⟩) 128 128) w':=hf _ (List.Mem.tail _ (List.Mem.tail _ (List.Mem.tail _ (List.Mem.head _)))) (by kernel_rfl);have f0:Fz w.heap.size 4096 4096 5 (lM 4096) (.slice (some ⟨r,0,none⟩) 4096 4096) w':=hf _ (List.Mem.tail _ (List.Mem.tail _ (List.Mem.tail _ (List.Mem.tail _ (List.Mem.head _))))) (by kernel_rfl);have hb1:=aD w' (.cells (mM r t d u (qA (.slice A n c) zR)) 69);refine Ml (w':=w'.alloc (.cells (mM r t d u (qA (.slice A n c) zR)) 69)) (v:=.pointer (some ⟨w'.heap.size,0,none⟩)) ?_ hb1 ⟨⟨_,rfl⟩,w'.heap.size,r,t,rfl,u,64,_,aL0 hb.size (f0 r rfl).1 (f1 t rfl).1 (f4 u rfl).1 (Bx.new _ _ _) ((f0 r rfl).2.below hb1) ((f1 t rfl).2.below hb1) ((f4 u rfl).2.below hb1) ((f3 d rfl).2.below hb1) ((f2 A n c rfl).1.below hb1) ((f2 A n c rfl).2.below hb1)⟩;go_simp
 go_big_quiet_step(fail);refine wpQuiet_nil ?_;simp only[e6]
 (refine rq rfl rfl ?_;go_big_quiet_step(fail);refine wpQuiet_nil ?_)
 refine rend ?_;intro w2 hb2 hf;have f6:FMa w.heap.size (.pointer (some ⟨b,0,none⟩)) w2:=hf _ (List.Mem.head _);obtain⟨m,r2,t2,eb,hm⟩:=f6;cases eb;have HM:=hZ hm;have HB:=hZ hb2;clear hf hV e0 e1 e2 e3 e4 e6 hm hb2;go_upto_region 2 with fail
 have lm:b<w2.heap.size:=by obtain⟨_,_,_,h⟩:=HM.out;exact h.size
 have hC0:CM w.heap.size (λ_=>False) b r2 t2 cO.ps w2 { w2 with drawn:=w2.drawn+1 } :=CM.below (Mr.cm HM.out) ⟨rfl,rfl,rfl,nR _,λ_ _=>rfl⟩;have hI0:Mr { w2 with drawn:=w2.drawn+1 } w.heap.size (λ_=>False) b r2 t2 cO:=Mr.below HM.out ⟨rfl,rfl,rfl,nR _,λ_ _=>rfl⟩;refine J2 8 (MD w.heap.size (CM w.heap.size (λ_=>False) b r2 t2 cO.ps w2) 2) (CM w.heap.size (λ_=>False) b r2 t2 cO.ps w2) [([2],λW=>Mr W w.heap.size (λ_=>False) b r2 t2 cO)] [fG.yI (C:=CM w.heap.size (λ_=>False) b r2 t2 cO.ps w2) (K:=2) (N:=w.heap.size) (Z:=λ_=>False) (m:=b) (r:=r2) (t:=t2) (.int .i64 f) (aQ cO),fG.call 3 (.agg #[.bool true,.int .i64 0,.bool false,.int .i64 0,.bool false,.int .i64 0,.bool false,.int .i64 0])] (by kernel_rfl) (D7 2 cO) hC0 (λp hp=>by rcases List.mem_singleton.1 hp with rfl;exact hI0) (by kernel_rfl) (by kernel_rfl) (by kernel_rfl) ?_;intro V hV;have e2:V 2=.int .i64 f:=hV 2;have e3:V 3=.agg #[.bool true,.int .i64 0,.bool false,.int .i64 0,.bool false,.int .i64 0,.bool false,.int .i64 0]:=hV 3;simp only[List.take_succ_cons,List.take_zero,List.drop_succ_cons,List.drop_zero];iterate 2 (refine dq (noW w2) (λw h=>h.noW) rfl rfl ?_;go_big_quiet_step(fail);refine wpQuiet_nil ?_)
 refine P8 (noW w2) (fG.yI (.int .i64 f) (aQ cO)) (by kernel_rfl) rfl (λw' hC hi hf=> ?_) ?_
 ·have hm:Mr w' w.heap.size (λ_=>False) b r2 t2 cO:=hi _ (List.Mem.head _) (by kernel_rfl)
  obtain⟨u',c',cs',hm⟩:=hm;exact rG (f:=36) (args:= #[.pointer (some ⟨b,0,none⟩)]) hC (Bi cO) (by go_simp) (Dm hm oN.out)
 go_big_quiet_step(fail);refine wpQuiet_nil ?_;simp only[e2];refine P8 (noW w2) (fG.call 3 _) (by kernel_rfl) rfl (λw' hC hi hf=> ?_) ?_
 ·refine wN (f:=37) (args:= #[]) (by decide) ?_ (HKF.out w')
  go_simp
 go_big_quiet_step(fail);refine wpQuiet_nil ?_;simp only[e3]
 (refine dq (noW w2) (λw h=>h.noW) rfl rfl ?_;go_big_quiet_step(fail);refine wpQuiet_nil ?_)
 refine dn (noW w2) ⟨b,0,none⟩ (by kernel_rfl) rfl rfl ?_;go_big_quiet_step(fail);refine wpQuiet_nil ?_;iterate 2 (refine dq (noW w2) (λw h=>h.noW) rfl rfl ?_;go_big_quiet_step(fail);refine wpQuiet_nil ?_)
 refine Zl ?_;intro w4 Je hi hf;have qD:Mr w4 w.heap.size (λ_=>False) b r2 t2 (aQ cO):=hf _ (List.Mem.tail _ (List.Mem.head _)) rfl;obtain⟨u4,c4,Fe,qD⟩:=qD;have M4:=hZ qD;have Yi:=hZ qD.V.size;have F4:=hZ Je.2;have aDt:Hid ((#[.bool true,.int .i64 f,.slice none 0 0,.bool true,.int .i64 0,.bool false,.int .i64 0,.bool false,.int .i64 0,.bool false,.int .i64 0]:Array Value).all (·.oneCell')=true):=hZ (by simp[Value.oneCell']);have M5:=hZ (qD.Yv (k:=0) (by decide) (pc:= #[.bool true,.int .i64 f,.slice none 0 0,.bool true,.int .i64 0,.bool false,.int .i64 0,.bool false,.int .i64 0,.bool false,.int .i64 0]) (p:=⟨true,f,[],K8⟩) rfl aDt.out rfl rfl ⟨_,rfl,⟨none,0,0,rfl,rfl,by omega,λh=>absurd h (Nat.lt_irrefl 0)⟩⟩ (λi y hy=>by have hi:=sK hy;rw[<-hy];rcases i with _|_|_|_|_|_|_|_|i;all_goals (first|rfl|omega)));have F5:=hZ (qD.aAD (69+0*11) (#[.bool true,.int .i64 f,.slice none 0 0,.bool true,.int .i64 0,.bool false,.int .i64 0,.bool false,.int .i64 0,.bool false,.int .i64 0]:Array Value).toList);have HBV:Hid (({ aQ cO with ps:=fJ (aQ cO).ps 0 ⟨true,f,[],K8⟩ } :Vm)=yX):=hZ (by unfold yX;rw[oN.out.n]);rw[HBV.out] at M5;have lm4:=qD.size;clear hi hf hV e2 e3 Je qD hC0 hI0;obtain⟨w5,nJ⟩:∃w5,w5=w4.setCells b (69+0*11) (#[.bool true,.int .i64 f,.slice none 0 0,.bool true,.int .i64 0,.bool false,.int .i64 0,.bool false,.int .i64 0,.bool false,.int .i64 0]:Array Value).toList:=⟨_,rfl⟩;have HW5:Hid (w5=w4.setCells b 69 (#[.bool true,.int .i64 f,.slice none 0 0,.bool true,.int .i64 0,.bool false,.int .i64 0,.bool false,.int .i64 0,.bool false,.int .i64 0]:Array Value).toList):=hZ nJ;rw[<-nJ] at M5 F5;clear nJ;go_wp2_with((with_reducible refine stM yK b 69 #[.bool true,.int .i64 f,.slice none 0 0,.bool true,.int .i64 0,.bool false,.int .i64 0,.bool false,.int .i64 0,.bool false,.int .i64 0] ?_ ?_ M4.out.X ?_ rfl aDt.out ?_);rfl;rfl;exact(by rw[Yi.out];decide);rw[<-HW5.out])
 go_ret;exact⟨b,r2,t2,rfl,⟨_,_,_,M5.out⟩,HB.out.trans ((F4.out.trans F5.out).1.mono (nR _))⟩
end
end Go.Proofs.YtoogfmbojlpjaaaGreat
