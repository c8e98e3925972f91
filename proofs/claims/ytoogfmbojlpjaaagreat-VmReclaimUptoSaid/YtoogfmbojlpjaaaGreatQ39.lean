/- Lemmas. -/
import Derived.Test.YtoogfmbojlpjaaaGreatQ38
import Derived.Deep.LoopGhost
import Derived.Test.YtoogfmbojlpjaaaGreatQA
set_option maxRecDepth 100000
set_option maxHeartbeats 32000000
set_option linter.unusedVariables false
set_option linter.unusedSimpArgs false
namespace Go.Proofs.YtoogfmbojlpjaaaGreat
open Go.ChangeShapes Go.WideShapes Go.ChangeAt Go.RowKit Go.Joins Go.Sort
def Gb (N:Nat) (Z:Nat->Prop) (m r t:Nat) (b:Bool) (v':Vm) (w:World) (e:Ending) (w':World):Prop:=e=.returned (.bool b)/\Mr w' N Z m r t v'/\aN N w w'
theorem Ow.base {α:Type} {f:α->List Value} {sz:Nat} {T:TypeId} {w:World} {base base' n c:Nat} {A:Option Addr} {xs:List α} (h:Ow f sz T w base A n c xs) (hb:base'<=base):Ow f sz T w base' A n c xs:=
 ⟨h.1,h.2.1,h.2.2.1,λhn=>by
   obtain⟨g,cur,e,hg,hh,hc⟩:=h.2.2.2 hn;exact⟨g,cur,e,Nat.le_trans hb hg,hh,hc⟩⟩
theorem Ow.addr {α:Type} {f:α->List Value} {sz:Nat} {T:TypeId} {w:World} {base n c:Nat} {A:Option Addr} {xs:List α} (h:Ow f sz T w base A n c xs) (hn:0<n):∃g,A=some ⟨g,0,none⟩/\base<=g:=by
 obtain⟨g,cur,e,hg,_⟩:=h.2.2.2 hn;exact⟨g,e,hg⟩
theorem aGl {w:World} {N m r t u c:Nat} {Z:Nat->Prop} {cs:Array Value} {v:Vm} (h:Mo w N Z m r t u c cs v) (hE:zL v=false):
 Calls Tryz.prog 38 #[.pointer (some ⟨m,0,none⟩)] w (Gb N Z m r t false v w):=by
 have hE':(jL v.hd (dR v) v.us !=0)=true:=by unfold zL at hE;rw[bne,hE];rfl
 have c0:w.cell? ⟨m,178,none⟩=some (.int .i64 v.hd):=h.aDc;have c1:=h.Qf;have l0:=h.size;have HM:=hZ h;have HE:=hZ hE';clear hE hE';clear h;go_enter Tryz.func38,Tryz.ntmps38;go_wp2;have gc:∀(d:Nat) (os:Array Obj) (b o:Nat),b<w.heap.size->(grow (redrawn w d) os).cell? ⟨b,o,none⟩=w.cell? ⟨b,o,none⟩:=λd os b o h=>(below_regrown _ d os).cell (p:=⟨b,o,none⟩) h;refine fK [Sp.gen 5 (λu=>∃g,u=.slice (some ⟨g,0,none⟩) 64 64) (λu W=>∀g,u=.slice (some ⟨g,0,none⟩) 64 64->Ow fB 1 4 W w.heap.size (some ⟨g,0,none⟩) 64 64 (dR v)) ⟨_,0,rfl⟩ (λu W W' h hb g e=>(h g e).below' hb),Sp.gen 10 (λu=>∃A n c',u=.tuple #[.int .i64 (Bc v.hd (dR v) v.us),.int .i64 (nS v.hd (dR v) v.us),.slice A n c',.int .i64 (jL v.hd (dR v) v.us)]) (λ_ _=>True) ⟨_,none,0,0,rfl⟩ (λ_ _ _ _ _=>trivial)] (by kernel_rfl) (by kernel_rfl) ?_;intro V hV;obtain⟨g5,e5⟩:∃g,V 5=.slice (some ⟨g,0,none⟩) 64 64:=hV 5;obtain⟨A,n,c',e10⟩:∃A n c',V 10=.tuple #[.int .i64 (Bc v.hd (dR v) v.us),.int .i64 (nS v.hd (dR v) v.us),.slice A n c',.int .i64 (jL v.hd (dR v) v.us)]:=hV 10
 (refine rq rfl rfl ?_;go_big_quiet_step(fail);refine wpQuiet_nil ?_)
 refine rn ⟨m,0,none⟩ (by kernel_rfl) rfl rfl ?_;go_big_quiet_step(fail);refine wpQuiet_nil ?_;iterate 3 (refine rq rfl rfl ?_;go_big_quiet_step(fail);refine wpQuiet_nil ?_)
 refine mQ (Sp.gen 5 _ _ _ _) (by kernel_rfl) rfl (λw' hb hf=> ?_) ?_
 ·refine bY (f:=63) (args:= #[.pointer (some ⟨m,0,none⟩)]) ?_ ((aBl (HM.out.below hb)).mono ?_)
  ·go_simp
  ·rintro e W ⟨g,rfl,ho,hbw⟩
   exact⟨_,rfl,hbw,⟨g,rfl⟩,λg2 e2=>by cases e2;exact ho.base hb.size⟩
 go_big_quiet_step(fail);refine wpQuiet_nil ?_;simp only[e5]
 (refine rq rfl rfl ?_;go_big_quiet_step(fail);refine wpQuiet_nil ?_)
 refine rn ⟨m,0,none⟩ (by kernel_rfl) rfl rfl ?_;go_big_quiet_step(fail);refine wpQuiet_nil ?_;iterate 2 (refine rq rfl rfl ?_;go_big_quiet_step(fail);refine wpQuiet_nil ?_)
 refine mQ (Sp.gen 10 _ _ _ _) (by kernel_rfl) rfl (λw' hb hf=> ?_) ?_
 ·have ho:Ow fB 1 4 w' w.heap.size (some ⟨g5,0,none⟩) 64 64 (dR v):=hf _ (List.Mem.head _) (by kernel_rfl) g5 rfl
  have hu:=(HM.out.below hb).us;refine bY (f:=62) (args:= #[.int .i64 v.hd,.slice (some ⟨g5,0,none⟩) 64 64,.slice (some ⟨u,0,none⟩) 64 c]) ?_ ((aB7 (some ⟨g5,0,none⟩) (some ⟨u,0,none⟩) 64 64 64 c (dR v) v.us v.hd w' w'.heap.size ho.row hu.row (nR _) (by decide) (by decide)).mono ?_)
  ·go_simp
  ·rintro e W ⟨A',n',c',rfl,ho',hbw⟩
   exact⟨_,rfl,hbw,⟨A',n',c',rfl⟩,trivial⟩
 go_big_quiet_step(fail);refine wpQuiet_nil ?_;simp only[e10];iterate 9 (refine rq rfl rfl ?_;go_big_quiet_step(fail);refine wpQuiet_nil ?_)
 refine rend ?_;intro w6 hb6 hf;clear hf hV gc e5 e10 c0 c1 l0;have hE:=HE.out;have M6:=hZ (HM.out.below hb6);have F6:=hZ (aN.of HM.out.hN hb6);clear hb6;generalize jL v.hd (dR v) v.us=E at*;generalize Bc v.hd (dR v) v.us=NV at*;generalize nS v.hd (dR v) v.us=NH at*;go_wp2;go_ret;exact⟨rfl,⟨u,c,cs,M6.out⟩,F6.out⟩
theorem Vt {w:World} {N m r t u c:Nat} {Z:Nat->Prop} {cs:Array Value} {v:Vm} (h:Mo w N Z m r t u c cs v) (hb:Bytes v.ts) (hr:kR v.rf) (hn:v.tl.length<=1000) {F S:Nat} (hE:Evi v F S):
 Calls Tryz.prog 38 #[.pointer (some ⟨m,0,none⟩)] w (Gb N Z m r t true (bE v) w):=by
 have hE0:jL v.hd (dR v) v.us=0:=hE.e;have hF0:Bc v.hd (dR v) v.us=F:=hE.f;have c0:w.cell? ⟨m,178,none⟩=some (.int .i64 v.hd):=h.aDc;have c1:=h.Qf;have l0:=h.size;have HM:=hZ h;have Hy:=hZ hE;have Yk:=hZ hb;have Hr:=hZ hr;have Hq:=hZ hn;have jN:=hZ hE.e;have lT:=hZ hF0;clear hE hb hr hn;clear h;go_enter Tryz.func38,Tryz.ntmps38;go_wp2;have gc:∀(d:Nat) (os:Array Obj) (b o:Nat),b<w.heap.size->(grow (redrawn w d) os).cell? ⟨b,o,none⟩=w.cell? ⟨b,o,none⟩:=λd os b o h=>(below_regrown _ d os).cell (p:=⟨b,o,none⟩) h;refine fK [Sp.gen 5 (λu=>∃g,u=.slice (some ⟨g,0,none⟩) 64 64) (λu W=>∀g,u=.slice (some ⟨g,0,none⟩) 64 64->Ow fB 1 4 W w.heap.size (some ⟨g,0,none⟩) 64 64 (dR v)) ⟨_,0,rfl⟩ (λu W W' h hb g e=>(h g e).below' hb),Sp.gen 10 (λu=>∃g c',u=.tuple #[.int .i64 F,.int .i64 (nS v.hd (dR v) v.us),.slice (some ⟨g,0,none⟩) 64 c',.int .i64 0]) (λx W=>∀g c',x=.tuple #[.int .i64 F,.int .i64 (nS v.hd (dR v) v.us),.slice (some ⟨g,0,none⟩) 64 c',.int .i64 0]->Ow fB 1 4 W w.heap.size (some ⟨g,0,none⟩) 64 c' (yH v.hd (dR v) v.us)) ⟨_,0,0,rfl⟩ (λu W W' h hb g c' e=>(h g c' e).below' hb)] (by kernel_rfl) (by kernel_rfl) ?_;intro V hV;obtain⟨g5,e5⟩:∃g,V 5=.slice (some ⟨g,0,none⟩) 64 64:=hV 5;obtain⟨g,c9,e10⟩:∃g c',V 10=.tuple #[.int .i64 F,.int .i64 (nS v.hd (dR v) v.us),.slice (some ⟨g,0,none⟩) 64 c',.int .i64 0]:=hV 10
 (refine rq rfl rfl ?_;go_big_quiet_step(fail);refine wpQuiet_nil ?_)
 refine rn ⟨m,0,none⟩ (by kernel_rfl) rfl rfl ?_;go_big_quiet_step(fail);refine wpQuiet_nil ?_;iterate 3 (refine rq rfl rfl ?_;go_big_quiet_step(fail);refine wpQuiet_nil ?_)
 refine mQ (Sp.gen 5 _ _ _ _) (by kernel_rfl) rfl (λw' hb hf=> ?_) ?_
 ·refine bY (f:=63) (args:= #[.pointer (some ⟨m,0,none⟩)]) ?_ ((aBl (HM.out.below hb)).mono ?_)
  ·go_simp
  ·rintro e W ⟨g,rfl,ho,hbw⟩
   exact⟨_,rfl,hbw,⟨g,rfl⟩,λg2 e2=>by cases e2;exact ho.base hb.size⟩
 go_big_quiet_step(fail);refine wpQuiet_nil ?_;simp only[e5]
 (refine rq rfl rfl ?_;go_big_quiet_step(fail);refine wpQuiet_nil ?_)
 refine rn ⟨m,0,none⟩ (by kernel_rfl) rfl rfl ?_;go_big_quiet_step(fail);refine wpQuiet_nil ?_;iterate 2 (refine rq rfl rfl ?_;go_big_quiet_step(fail);refine wpQuiet_nil ?_)
 refine mQ (Sp.gen 10 _ _ _ _) (by kernel_rfl) rfl (λw' hb hf=> ?_) ?_
 ·have ho:Ow fB 1 4 w' w.heap.size (some ⟨g5,0,none⟩) 64 64 (dR v):=hf _ (List.Mem.head _) (by kernel_rfl) g5 rfl
  have hu:=(HM.out.below hb).us;refine bY (f:=62) (args:= #[.int .i64 v.hd,.slice (some ⟨g5,0,none⟩) 64 64,.slice (some ⟨u,0,none⟩) 64 c]) ?_ ((aB7 (some ⟨g5,0,none⟩) (some ⟨u,0,none⟩) 64 64 64 c (dR v) v.us v.hd w' w'.heap.size ho.row hu.row (nR _) (by decide) (by decide)).mono ?_)
  ·go_simp
  ·rintro e W ⟨A',n',c',rfl,ho',hbw⟩
   rw[jN.out,lT.out];have Wx:(yH v.hd (dR v) v.us).length=64:=by
    obtain⟨_,_,_,_,_,_,q⟩:=aEj (aCe v) jN.out;rw[q];exact hu.1
   obtain rfl:n'=64:=by rw[<-ho'.1];exact Wx
   obtain⟨g',rfl,hg'⟩:=ho'.addr (by decide);exact⟨_,rfl,hbw,⟨g',c',rfl⟩,λg2 c2 e2=>by cases e2;exact ho'.base hb.size⟩
 go_big_quiet_step(fail);refine wpQuiet_nil ?_;simp only[e10];iterate 9 (refine rq rfl rfl ?_;go_big_quiet_step(fail);refine wpQuiet_nil ?_)
 refine rend ?_;intro w6 hb6 hf;have aI0:Ow fB 1 4 w6 w.heap.size (some ⟨g,0,none⟩) 64 c9 (yH v.hd (dR v) v.us):=hf _ (List.Mem.head _) g c9 rfl;obtain⟨_,aFz⟩:∃g',(some ⟨g,0,none⟩:Option Addr)=some ⟨g',0,none⟩/\w.heap.size<=g':=aI0.addr (by decide);obtain⟨e',aFz⟩:=aFz;cases e';have M6:=hZ (HM.out.below hb6);have F6:=hZ (aN.of HM.out.hN hb6);have oO:=hZ (HM.out.next (x:=nS v.hd (dR v) v.us) hb6 aFz (aI0.base HM.out.hN));have f178:=M6.out.X.free 178;have f113:=M6.out.X.free 113;have aO7:=M6.out.aDc;have aO8:=M6.out.Qf;have l6:=M6.out.size;have zD:Hid ({ v with us:=yH v.hd (dR v) v.us,hd:=nS v.hd (dR v) v.us } = { kT v with dv:=v.dv }):=hZ rfl;rw[zD.out] at oO;have F7:=hZ (F6.out.trans (M6.out.qU (w':=(w6.setCell ⟨m,178,none⟩ (.int .i64 (nS v.hd (dR v) v.us))).setCell ⟨m,113,none⟩ (.slice (some ⟨g,0,none⟩) 64 c9)) (((bD.refl (λq=>q=m) w6).cell (.inl rfl) _ _).cell (.inl rfl) _ _)));obtain⟨xR,aNf⟩:∃xR,xR=(cs.setIfInBounds 178 (.int .i64 (nS v.hd (dR v) v.us))).setIfInBounds 113 (.slice (some ⟨g,0,none⟩) 64 c9):=⟨_,rfl⟩;rw[<-aNf] at oO;clear hf hV gc e5 e10 c0 c1 l0 hb6 aI0 aFz aNf hE0 hF0;generalize nS v.hd (dR v) v.us=NH at*;go_wp2;obtain⟨w7,hw7⟩:∃w7,w7=(w6.setCell ⟨m,178,none⟩ (.int .i64 NH)).setCell ⟨m,113,none⟩ (.slice (some ⟨g,0,none⟩) 64 c9):=⟨_,rfl⟩;rw[<-hw7] at oO F7⊢;clear hw7 f178 f113 aO7 aO8 l6 M6 F6;have Pv:=Hy.out;have hfl:=Pv.fl;have hfi:(F:Int)<64:=by omega
 have hf0:(0:Int)<=(F:Int):=by omega
 obtain⟨A,c2,xs,cd,hz,hq⟩:=oO.out.P9;have hSP:uA v.dv (tL v.zs F) (jS v.ts F) (v.rf F)=0:=by have:=Pv.sp;rwa[Pv.f,Int.toNat_natCast] at this
 have hSN:((qR v.dv (tL v.zs F) (jS v.ts F) (v.rf F):Nat):Int)=S:=by have:=Pv.s;unfold evS at this;rwa[Pv.f,Int.toNat_natCast] at this
 have hSS:(kT v).dv=tZ v.dv (tL v.zs F) (jS v.ts F) (v.rf F):=by show tZ v.dv (tL v.zs (wF v)) (jS v.ts (wF v)) (v.rf (wF v).toNat)=_;rw[Pv.f,Int.toNat_natCast]
 have hSL:(kT v).dv.length=64:=by
  rw[hSS];unfold tZ;rw[if_pos hSP,List.length_set];exact oO.out.dvl
 have iZ:Hid (∀W,Below w7.heap.size w7 W->∀tA tc,Row .i64 W W.heap.size tA 4 (jS v.ts F)->Calls Tryz.prog 64 #[.slice A 64 c2,.slice (some ⟨r,((F:Int)*64).toNat,none⟩) 64 (4096 - ((F:Int)*64).toNat),.slice tA 4 tc,.int .i64 (v.rf F)] W (aFW (kS Z m r t g) S 0 (kT v).dv W)):=hZ (λW hW tA tc ht=>by
  have MW:=oO.out.below hW;obtain⟨q1,q2,q3,q4⟩:=MW.lt;have:=aIm (Q:=kS Z m r t g) A 64 c2 xs v.dv (some ⟨r,((F:Int)*64).toNat,none⟩) 64 (4096 - ((F:Int)*64).toNat) (tL v.zs F) tA 4 tc (jS v.ts F) (v.rf F) W (λb hb=>⟨by omega,by omega,by omega,by omega,λhz=>by have:=MW.zl b hz;omega⟩) (hz.keeps (P:=λ_=>True) (λb hb' _=>hW.block b hb') hW.size (λ_ _ _ _ _=>trivial)) (Gp hq hW) (MW.aAh hf0 hfi) ht (by decide);rw[hSP,hSN,<-hSS] at this;exact this)
 have HSL:=hZ hSL;have c0:w7.cell? ⟨m,3+F,none⟩=some (.int .i64 (v.rf F)):=oO.out.aBb hfl;have l7:=oO.out.size;have HFL:=hZ hfl;clear Pv hz hq hSP hSN hSS hSL hfl;have gc:∀(d:Nat) (os:Array Obj) (b o:Nat),b<w7.heap.size->(grow (redrawn w7 d) os).cell? ⟨b,o,none⟩=w7.cell? ⟨b,o,none⟩:=λd os b o h=>(below_regrown _ d os).cell (p:=⟨b,o,none⟩) h;refine fK [Sp.call 6 (.slice (some ⟨r,((F:Int)*64).toNat,none⟩) 64 (4096 - ((F:Int)*64).toNat)),Sp.gen 9 (λu=>∃A c,u=.slice A 4 c) (λx W=>∀A c,x=.slice A 4 c->Row .i64 W W.heap.size A 4 (jS v.ts F)) ⟨_,none,0,rfl⟩ (λx W W' h hb A c e=>(h A c e).keeps (P:=λ_=>True) (λb hb' _=>hb.block b hb') hb.size (λ_ _ _ _ _=>trivial)),
  Sp.gen 17 (λu=>∃A c',u=.tuple #[.slice A 64 c',.int .i64 S,.int .i64 0]) (λx W=>∀A c',x=.tuple #[.slice A 64 c',.int .i64 S,.int .i64 0]->Ms (kS Z m r t g) w7 (kT v).dv A 64 W) ⟨_,none,0,rfl⟩ (λx W W' h hb A c' e=>Qk (h A c' e) hb)] (by kernel_rfl) (by kernel_rfl) ?_
 intro V hV;have e6:V 6=.slice (some ⟨r,((F:Int)*64).toNat,none⟩) 64 (4096 - ((F:Int)*64).toNat):=hV 6;obtain⟨A9,c9',e9⟩:∃A c,V 9=.slice A 4 c:=hV 9;obtain⟨A17,c17,e17⟩:∃A c',V 17=.tuple #[.slice A 64 c',.int .i64 S,.int .i64 0]:=hV 17
 (refine rq rfl rfl ?_;go_big_quiet_step(fail);refine wpQuiet_nil ?_)
 refine rn ⟨m,0,none⟩ (by kernel_rfl) rfl rfl ?_;go_big_quiet_step(fail);refine wpQuiet_nil ?_;iterate 4 (refine rq rfl rfl ?_;go_big_quiet_step(fail);refine wpQuiet_nil ?_)
 refine mQ (Sp.call 6 _) (by kernel_rfl) rfl (λw' hb hf=> ?_) ?_
 ·refine rF (f:=65) (args:= #[.pointer (some ⟨m,0,none⟩),.int .i64 F]) ?_ (J5 (oO.out.below hb) F hf0 hfi)
  go_simp
 go_big_quiet_step(fail);refine wpQuiet_nil ?_;simp only[e6];iterate 2 (refine rq rfl rfl ?_;go_big_quiet_step(fail);refine wpQuiet_nil ?_)
 refine mQ (Sp.gen 9 _ _ _ _) (by kernel_rfl) rfl (λw' hb hf=> ?_) ?_
 ·refine bY (f:=66) (args:= #[.pointer (some ⟨m,0,none⟩),.int .i64 F]) ?_ ((Ia (oO.out.below hb) Yk.out F hf0 hfi).mono ?_)
  ·go_simp
  ·rintro e W ⟨A',c',rfl,ho,hbw⟩
   exact⟨_,rfl,hbw,⟨A',c',rfl⟩,λA2 c2 e2=>by cases e2;exact ho.row⟩
 go_big_quiet_step(fail);refine wpQuiet_nil ?_;simp only[e9];iterate 2 (refine rq rfl rfl ?_;go_big_quiet_step(fail);refine wpQuiet_nil ?_)
 refine rn ⟨m,0,none⟩ (by kernel_rfl) rfl rfl ?_;go_big_quiet_step(fail);refine wpQuiet_nil ?_;iterate 4 (refine rq rfl rfl ?_;go_big_quiet_step(fail);refine wpQuiet_nil ?_)
 refine mQ (Sp.gen 17 _ _ _ _) (by kernel_rfl) rfl (λw' hb hf=> ?_) ?_
 ·have ht:Row .i64 w' w'.heap.size A9 4 (jS v.ts F):=hf _ (List.Mem.head _) (by kernel_rfl) A9 c9' rfl
  refine bY (f:=64) (args:= #[.slice A 64 c2,.slice (some ⟨r,((F:Int)*64).toNat,none⟩) 64 (4096 - ((F:Int)*64).toNat),.slice A9 4 c9',.int .i64 (v.rf F)]) ?_ ((iZ.out w' hb A9 c9' ht).mono ?_)
  ·go_simp
  ·rintro e W ⟨A',n',c',hnc,rfl,hg⟩
   obtain⟨ys,g1,g2,g3,g4⟩:=hg;obtain rfl:n'=64:=by rw[<-g1.1,g2.1];exact HSL.out
   refine⟨_,rfl,g3,⟨A',c',rfl⟩,λA2 c2 e2=> ?_⟩;cases e2;exact⟨ys,g1,g2,hb.trans (g3.mono hb.size),λb o s e h0=>Nat.le_trans hb.size (g4 b o s e h0)⟩
 go_big_quiet_step(fail);refine wpQuiet_nil ?_;simp only[e17];iterate 7 (refine rq rfl rfl ?_;go_big_quiet_step(fail);refine wpQuiet_nil ?_)
 refine rend ?_;intro w8 zK hf;have hg:Ms (kS Z m r t g) w7 (kT v).dv A17 64 w8:=hf _ (List.Mem.head _) A17 c17 rfl;have M8:=hZ (oO.out.below zK);have F8:=hZ (F7.out.trans (aN.of oO.out.hN zK));have M9:Hid (Mo (w8.setCell ⟨m,67,none⟩ (.slice A17 64 c17)) N Z m r t g c9 (xR.setIfInBounds 67 (.slice A17 64 c17)) (kT v)):=hZ (M8.out.aBM (c':=c17) oO.out.lt oO.out.zl hg);have F9:Hid (aN N w (w8.setCell ⟨m,67,none⟩ (.slice A17 64 c17))):=hZ (F8.out.trans (M8.out.qU ((bD.refl (λq=>q=m) w8).cell (.inl rfl) _ _)));obtain⟨Ad,cd',_,cd8,_,_⟩:=M8.out.P9;have fd8:=M8.out.X.free 67;have l8:=M8.out.size;clear hf hV gc e6 e9 e17 hg zK c0 l7 cd;go_wp2_with(go_at_call 67;refine(mR _).mono ?_;rintro e w' ⟨rfl,hw⟩;rw[hw];clear hw)
 obtain⟨w9,Mf⟩:∃w9,w9=w8.setCell ⟨m,67,none⟩ (.slice A17 64 c17):=⟨_,rfl⟩;rw[<-Mf] at M9 F9⊢;clear Mf fd8 cd8 l8 M8 F8 iZ oO F7;have HST:=hZ Hy.out.st;have qG:Hid ((kT v).ps=v.ps):=hZ rfl;go_loopw [65] (λi wr=>∃k:Nat,k<=4/\i=.int .i64 k/\Hid (Mr wr N Z m r t (iJ F S (kT v) (64*k)))/\Hid (aN N w wr)) (λi _=>4 - (intOf i).toNat)
 case atStart=>exact⟨0,by omega,rfl,hZ ⟨g,c9,_,M9.out⟩,F9⟩
 case round=>
  obtain⟨k,hk,rfl,Dh,xX⟩:=hrel;by_cases hlt:k<4
  ·have hki:(k:Int)<4:=by omega
   have hk0:(0:Int)<=(k:Int):=by omega
   obtain⟨wo,hwo⟩:∃wo,wo=wr:=⟨_,rfl⟩;subst hwo;go_wp2;go_loopw [68] (λi wr=>∃p:Nat,p<=64/\i=.int .i64 p/\Hid (Mr wr N Z m r t (iJ F S (kT v) (64*k+p)))/\Hid (aN N w wr)) (λi _=>64 - (intOf i).toNat)
   case atStart=>exact⟨0,by omega,rfl,Dh,xX⟩
   case round=>
    obtain⟨p,hp,rfl,aNM,aF5⟩:=hrel;by_cases hlp:p<64
    ·have hpi:(p:Int)<64:=by omega
     have hp0:(0:Int)<=(p:Int):=by omega
     obtain⟨hs,hg⟩:=HST.out (64*k+p) (by omega);rw[show(64*k+p)/64=k by omega,show(64*k+p)%64=p by omega] at hg;obtain⟨u',c',cs',hM⟩:=aNM.out;have hTL:(iJ F S (kT v) (64*k+p)).tl.length<=1000:=Nat.le_trans (Nu _ _ _ _) Hq.out;have hsu:Hid (iJ F S (kT v) (64*k+p+1)=oQ F S (iJ F S (kT v) (64*k+p)) (64*k+p)):=hZ (Av _ _ _ _);obtain⟨U,hU⟩:∃U,U=iJ F S (kT v) (64*k+p):=⟨_,rfl⟩;rw[<-hU] at hs hg hM hTL hsu;have lF:=hZ hM;have hup:U.ps=v.ps:=hs.ps;have aPi:=hZ hTL;have HZB:=hZ hs.T.zb;cases hv:(v.ps k).live with
     |false=>
      have HN:Hid (oQ F S U (64*k+p)=U):=hZ (by unfold oQ;rw[show(64*k+p)/64=k by omega,hup,hv,if_neg (by simp)]);have cl:wr.cell? ⟨m,69+k*11,none⟩=some (.bool false):=by rw[<-hv,<-hup];exact hM.Xt hlt
      have lm:=hM.size;clear hs hg hM hup hU hTL hv;go_wp2;go_roundw
      case rel=>exact⟨p+1,by omega,by go_num,hZ (by rw[show 64*k+(p+1)=64*k+p+1 by omega,hsu.out,HN.out];exact⟨u',c',cs',lF.out⟩),aF5⟩
      case measure=>simp[intOf];omega
     |true=>
      have cl:wr.cell? ⟨m,69+k*11,none⟩=some (.bool true):=by rw[<-hv,<-hup];exact hM.Xt hlt
      have lm:=hM.size;obtain⟨hge,hgt⟩:=hg hv;have HGE:Hid (lI U.zs (U.ps k).root p=0):=hZ (by rw[hup];exact hge);have HGT:Hid (gF U k p=(1,(F:Int))->nO U.zs (U.ps k).root p 2 S=0):=hZ (by rw[hup];exact hgt);have qF:Hid (oQ F S U (64*k+p)=if gF U k p=(1,(F:Int)) then eT U k p 2 S else U):=hZ (by
       unfold oQ;rw[show(64*k+p)/64=k by omega,show(64*k+p)%64=p by omega,hup,hv];simp)
      clear hs hg hM hup hU hTL hge hgt hv;obtain⟨K,X,uW⟩:∃K X,gF U k p=(K,X):=⟨_,_,rfl⟩;have xW:=hZ uW;rw[uW] at HGT qF;clear uW;by_cases hq:K=1/\X=F
      ·obtain⟨rfl,rfl⟩:=hq
       go_wp2_with fail
       refine(rY lF.out HZB.out k hlt p HGE.out).mono ?_;rintro e wa ⟨rfl,hba⟩;rw[xW.out];have HMA:=hZ (lF.out.below hba);have jT:=hZ (aF5.out.trans (aN.of lF.out.hN hba));clear hba cl lm;go_wp2_with fail
       refine(xG HMA.out HZB.out aPi.out k hlt p 2 S (HGT.out (by first|rfl|trivial))).mono ?_;rintro e wb ⟨rfl,hmb,Xd⟩;have HMB:=hZ hmb;have HFB:=hZ (jT.out.trans Xd);clear hmb Xd;go_wp2;go_roundw
       case rel=>exact⟨p+1,by omega,by go_num,hZ (by rw[show 64*k+(p+1)=64*k+p+1 by omega,hsu.out,qF.out,if_pos (by first|rfl|trivial)];exact HMB.out),HFB⟩
       case measure=>simp[intOf];omega
      ·have HN:Hid (oQ F S U (64*k+p)=U):=hZ (by rw[qF.out,if_neg];intro e;exact hq (Prod.mk.inj e))
       have h12:K≠1\/(K=1/\X≠F):=by
        by_cases e:K=1
        ·exact .inr ⟨e,λe2=>hq ⟨e,e2⟩⟩
        ·exact .inl e
       clear hq;rcases h12 with hne|⟨rfl,hne⟩
       all_goals
        go_wp2_with fail
        refine(rY lF.out HZB.out k hlt p HGE.out).mono ?_;rintro e wa ⟨rfl,hba⟩;rw[xW.out];have HMA:=hZ (lF.out.below hba);have jT:=hZ (aF5.out.trans (aN.of lF.out.hN hba));clear hba cl lm;go_wp2;go_roundw
        case rel=>exact⟨p+1,by omega,by go_num,hZ (by rw[show 64*k+(p+1)=64*k+p+1 by omega,hsu.out,HN.out];exact⟨u',c',cs',HMA.out⟩),jT⟩
        case measure=>simp[intOf];omega
    ·have aFv:p=64:=by omega
     subst aFv;go_wp2;go_roundw
     case rel=>exact⟨k+1,by omega,by go_num,aNM,aF5⟩
     case measure=>simp[intOf];omega
  ·have hk4:k=4:=by omega
   subst hk4;go_wp2;have HZ:Hid (Stp (kT v) (iJ F S (kT v) 256) F S 256):=hZ Hy.out.sz;have Nc:=hZ Hy.out.eq;obtain⟨U,hU⟩:∃U,U=iJ F S (kT v) 256:=⟨_,rfl⟩;rw[show 64*4=256 from rfl,<-hU] at Dh;rw[<-hU] at HZ Nc;have HUR:Hid (U.rf=v.rf):=hZ HZ.out.rf;have hr1:=Hy.out.r1;have hr4:=Hy.out.r4;have HR1:=hZ hr1;have HR4:=hZ hr4;have Yj:Hid (sJ U F (v.rf F)=U):=hZ (by have:=aDF (v:=U) (f:=F) (by rw[HUR.out];omega);rwa[HUR.out] at this);obtain⟨n0,hn0⟩:∃n0:Nat,v.rf F=n0:=⟨(v.rf F).toNat,by omega⟩;rw[hn0] at Yj HR1 HR4;have hn4:n0<=4:=by have:=HR4.out;omega
   clear hU hr1 hr4 hn0 Hy HST
   go_loopg [] n0 (λj wr=>j<=4/\Hid (Mr wr N Z m r t (sJ U F j))/\Hid (aN N w wr))
   case atStart=>exact⟨hn4,hZ (by rw[Yj.out];exact Dh.out),xX⟩
   case round=>
    obtain⟨hj,HML,aNN⟩:=hrel;obtain⟨u',c',cs',hM⟩:=HML.out;have hlr:(sJ U F gk).rf F=gk:=vH _ _ _;have De:Hid (kR (sJ U F gk).rf):=hZ (λi hi=>by
     show 0<=aO U.rf F gk i/\aO U.rf F gk i<=1000;unfold aO;split
     ·omega
     ·rw[HUR.out];exact Hr.out i hi)
    have cl:wr.cell? ⟨m,3+F,none⟩=some (.int .i64 gk):=by rw[<-hlr];exact hM.aBb HFL.out
    have lm:=hM.size;have lF:=hZ hM;have HLR:=hZ hlr;clear hlr hM;rcases Nat.eq_zero_or_pos gk with hg0|hg0
    ·subst hg0
     go_wp2;go_ret;refine⟨rfl,?_,aNN.out⟩;rw[Nc.out,<-aHd];exact⟨u',c',cs',lF.out⟩
    ·have hg1:(0:Int)<(gk:Int):=by omega
     have HG0:Hid ((sJ U F gk).rf F≠0):=hZ (by rw[HLR.out];omega);have aPk:Hid (bO (sJ U F gk) 1 F=sJ U F ((gk -1:Nat):Int)):=hZ (by rw[aFm (by omega),show((gk -1:Nat):Int)=(gk:Int) -1 by omega]);go_wp2_with fail
     refine(x8 lF.out De.out HFL.out HG0.out).mono ?_;rintro e wb ⟨rfl,hmb,Xd⟩;rw[aPk.out] at hmb;have HMB:=hZ hmb;have HFB:=hZ (aNN.out.trans Xd);clear hmb Xd cl lm;go_wp2
     go_roundg (gk -1)
     case measure=>omega
     case rel=>exact⟨by omega,HMB,HFB⟩
def Gi (N:Nat) (Z:Nat->Prop) (m r t:Nat) (x:Int) (v':Vm) (w:World) (e:Ending) (w':World):Prop:=e=.returned (.int .i64 x)/\Mr w' N Z m r t v'/\aN N w w'
theorem Mo.take {w W:World} {N m r t u c:Nat} {Z:Nat->Prop} {cs:Array Value} {v:Vm} (h:Mo w N Z m r t u c cs v) (hr:kR v.rf) {p:Pl} {n E:Int} (hT:sD (gJ v.rf)=(p,n,E)):
 Calls Tryz.prog 105 #[.agg (zI cs)] w λe w'=>∃pc,e=.returned (.tuple #[.agg pc,.int .i64 n,.int .i64 E])/\iY w' pc p/\(∀y,pc[0]? =some y->Ap Z m r t u y/\Ty w' y)/\Below w.heap.size w w':=by
 obtain⟨hpv,x0,hx0,f1,f5⟩:=h.pool;have:=aKP hpv hr.fits.1;rw[hT] at this;refine this.mono ?_;rintro e w' ⟨pc,rfl,hpl,Xc,htk,hb⟩;have q:∀g,g<w.heap.size->lV x0 g->∀y,pc[0]? =some y->lV y g:=λg hg hf y hy=>Xc g hg (λz hz=>by rw[hx0] at hz;cases hz;exact hf) y hy;exact⟨pc,rfl,hpl,λy hy=>⟨h.aJk f1 q y hy,htk (λz hz=>by rw[hx0] at hz;cases hz;exact f5) y hy⟩,hb⟩
theorem aEQ {w:World} {N m r t u c:Nat} {Z:Nat->Prop} {cs:Array Value} {v:Vm} (h:Mo w N Z m r t u c cs v) (hr:kR v.rf) {f:Nat} (hT:sD (gJ v.rf)=(gJ (aO v.rf f 1),(f:Int),0)):
 Calls Tryz.prog 60 #[.pointer (some ⟨m,0,none⟩)] w (Gi N Z m r t f (sW v) w):=by
 have HV:Hid (sW v= { v with rf:=aO v.rf f 1 }):=hZ (by unfold sW frF;rw[hT];simp);have HM:=hZ h;have HX:=hZ h.X;have iC:=hZ (Ep h.V.size);have uJ:=hZ h.V.size;have oN:=hZ (h.take (W:=w) hr hT);have lm:=h.size;clear h hr hT;go_enter Tryz.func60,Tryz.ntmps60;go_wp2_with(first
  |((with_reducible refine qW Tryz.underlying57 rfl qB m 2 (zI cs) ?_ ?_ HX.out (I8 cs) iC.out ?_);rfl;rfl)
  |(with_reducible refine Mm ?_)
  |((with_reducible refine uM qB pc ?_ ?_ dU qG.out Df.out ?_);rfl;rfl)
  |(go_at_call 105
    refine oN.out.mono ?_;rintro e w1 ⟨pc,rfl,hpl,uV,hb1⟩;have qG:=hZ hpl.size;have Df:=hZ hpl.one;have HPL:=hZ hpl;have Lx:=hZ uV;have HB1:=hZ hb1;clear hpl uV hb1)
  |fail)
 have hbw2:=aD w1 (.cells pc 57);have Db:=hZ (Bx.new w1 57 pc);have M2:=hZ ((HM.out.below HB1.out).below hbw2);have F2:=hZ ((aN.of HM.out.hN HB1.out).trans (aN.of (HM.out.below HB1.out).hN hbw2));have P2:=hZ (HPL.out.below hbw2);have Js:Hid (∀y,pc[0]? =some y->Ap Z m r t u y/\Ty (w1.alloc (.cells pc 57)) y):=hZ (λy hy=>by
  obtain⟨a1,a5⟩:=Lx.out y hy;exact⟨a1,a5.below hbw2⟩)
 obtain⟨w2,hw2⟩:∃w2,w2=w1.alloc (.cells pc 57):=⟨_,rfl⟩;rw[<-hw2] at hbw2 Db M2 F2 P2 Js⊢;clear hw2 hbw2;have l2:w1.heap.size<w2.heap.size:=Db.out.lt;have lm2:=M2.out.size;have M3:Hid (Mo (w2.setCells m 2 pc.toList) N Z m r t u c (rP cs 2 pc.toList) { v with rf:=aO v.rf f 1 }):=hZ (M2.out.Q6 P2.out Js.out);have F3:Hid (aN N w (w2.setCells m 2 pc.toList)):=hZ (F2.out.trans (M2.out.qU (eU _ _ _ _)));obtain⟨w3,hw3⟩:∃w3,w3=w2.setCells m 2 pc.toList:=⟨_,rfl⟩;have HW3:=hZ hw3;rw[<-hw3] at M3 F3;clear hw3;go_wp2_with(first
  |((with_reducible refine uR w1.heap.size ?_ Db.out qG.out ?_);rfl)
  |((with_reducible refine stM qB m 2 pc ?_ ?_ M2.out.X ?_ qG.out Df.out ?_);rfl;rfl;exact(by rw[uJ.out];decide);rw[<-HW3.out])
  |(go_at_call 67;refine(mR _).mono ?_;rintro e w' ⟨rfl,hw⟩;rw[hw];clear hw))
 go_ret;refine⟨rfl,⟨u,c,rP cs 2 pc.toList,?_⟩,F3.out⟩;rw[HV.out];exact M3.out
theorem aEP {w:World} {N m r t u c:Nat} {Z:Nat->Prop} {cs:Array Value} {v:Vm} (h:Mo w N Z m r t u c cs v) (hb:Bytes v.ts) (hr:kR v.rf) (hn:v.tl.length<=1000) {F S:Nat} (hE:Evi v F S) (hT:sD (gJ v.rf)=(jA,0,4))
 (hr2:kR (bE v).rf) {f:Nat} (Jd:sD (gJ (bE v).rf)=(gJ (aO (bE v).rf f 1),(f:Int),0)):
 Calls Tryz.prog 60 #[.pointer (some ⟨m,0,none⟩)] w (Gi N Z m r t f (sW (bE v)) w):=by
 have HV:Hid (sW (bE v)= { bE v with rf:=aO (bE v).rf f 1 }):=hZ (by unfold sW frF;rw[Jd];simp);have HM:=hZ h;have HX:=hZ h.X;have iC:=hZ (Ep h.V.size);have uJ:=hZ h.V.size;have oN:=hZ (h.take (W:=w) hr hT);have lm:=h.size;have Yk:=hZ hb;have Hr:=hZ hr;have Hq:=hZ hn;have Hy:=hZ hE;have HR2:=hZ hr2;have HT2:=hZ Jd;clear h hr hT hb hn hE hr2 Jd;go_enter Tryz.func60,Tryz.ntmps60;go_wp2_with(first
  |((with_reducible refine qW Tryz.underlying57 rfl qB m 2 (zI cs) ?_ ?_ HX.out (I8 cs) iC.out ?_);rfl;rfl)
  |(with_reducible refine Mm ?_)
  |((with_reducible refine uM qB pc ?_ ?_ dU qG.out Df.out ?_);rfl;rfl)
  |(go_at_call 105
    refine oN.out.mono ?_;rintro e w1 ⟨pc,rfl,hpl,uV,hb1⟩;have qG:=hZ hpl.size;have Df:=hZ hpl.one;have HPL:=hZ hpl;have Lx:=hZ uV;have HB1:=hZ hb1;clear hpl uV hb1)
  |fail)
 have hbw2:=aD w1 (.cells pc 57);have Db:=hZ (Bx.new w1 57 pc);have M2:Hid (Mo (w1.alloc (.cells pc 57)) N (λb=>Z b\/b=w1.heap.size) m r t u c cs v):=hZ ((HM.out.below HB1.out).fresh hbw2 (nR _) (by simp));have F2:=hZ ((aN.of HM.out.hN HB1.out).trans (aN.of (HM.out.below HB1.out).hN hbw2));have P2:=hZ (HPL.out.below hbw2);have Js:Hid (∀y,pc[0]? =some y->Ap Z m r t u y/\Ty (w1.alloc (.cells pc 57)) y):=hZ (λy hy=>by
  obtain⟨a1,a5⟩:=Lx.out y hy;exact⟨a1,a5.below hbw2⟩)
 obtain⟨w2,hw2⟩:∃w2,w2=w1.alloc (.cells pc 57):=⟨_,rfl⟩;rw[<-hw2] at hbw2 Db M2 F2 P2 Js⊢;clear hw2 hbw2;have l2:w1.heap.size<w2.heap.size:=Db.out.lt;have lm2:=M2.out.size;clear P2 Js;go_wp2_with fail
 refine(Vt M2.out Yk.out Hr.out Hq.out Hy.out).mono ?_;rintro e w4 ⟨rfl,⟨u4,c4,Fe,hM4⟩,hfr⟩;have M4:=hZ hM4;have F4:=hZ (F2.out.trans hfr);have Ce:=hZ (Db.out.bM hfr (by decide) (by decide) (by decide));have HXM:=hZ hM4.X;have aPj:=hZ (Ep hM4.V.size);have Yi:=hZ hM4.V.size;have aNJ:=hZ (hM4.take (W:=w4) HR2.out HT2.out);have l4:w1.heap.size<w4.heap.size:=Ce.out.lt;have lm4:=hM4.size;obtain⟨EV,Pv⟩:∃EV,EV=bE v:=⟨_,rfl⟩;have Nc:=hZ Pv;rw[<-Pv] at M4 aNJ HV;clear hfr hM4 Pv lm lm2 l2;go_wp2_with(first
  |((with_reducible refine qW Tryz.underlying57 rfl qB m 2 (zI Fe) ?_ ?_ HXM.out (I8 Fe) aPj.out ?_);rfl;rfl)
  |(go_at_call 105
    refine aNJ.out.mono ?_;rintro e w5 ⟨pd,rfl,hpl,uV,hb5⟩;have HQS:=hZ hpl.size;have HQ1:=hZ hpl.one;have HQL:=hZ hpl;have HQF:=hZ uV;have Qq:=hZ (Ce.out.below hb5);have vU:=hZ hb5;have l5:w1.heap.size<w5.heap.size:=Qq.out.lt;clear hpl uV hb5 l4)
  |((with_reducible refine Ej w1.heap.size pd ?_ ?_ Qq.out qG.out HQS.out HQ1.out ?_);rfl;rfl))
 have Ye:=hZ (Qq.out.row pd);have hk6:∀b,b≠w1.heap.size->(w5.setRow w1.heap.size pd).heap[b]? =w5.heap[b]? :=λb hb=>setRow_other w5 w1.heap.size b pd hb;have hs6:w5.heap.size<=(w5.setRow w1.heap.size pd).heap.size:=by simp[World.setRow]
 have M6:=hZ ((M4.out.below vU.out).other (W:=w5.setRow w1.heap.size pd) (.inr rfl) Qq.out (by decide) (by decide) (by decide) (by decide) hk6 hs6);have F6:Hid (aN N w (w5.setRow w1.heap.size pd)):=hZ ⟨below_setRow (F4.out.1.trans (vU.out.mono M4.out.hN)) (Nat.le_trans HM.out.hN HB1.out.size) _,λb T cs h1 h2 h3 hx=>by
  have hlt:¬b=w1.heap.size:=by have:=hx.lt;have:=HB1.out.size;omega
  exact((hx.bM F4.out h1 h2 h3).below vU.out).kQ hlt _⟩
 have P6:Hid (iY (w5.setRow w1.heap.size pd) pd (gJ (aO EV.rf f 1))):=hZ (HQL.out.row (λy hy b off mm n' c' e h0=>by
  obtain⟨cur,hx⟩:=(HQF.out y hy).2 b off mm n' c' e h0;exact Gm hx Qq.out (by decide)) pd)
 have HF6:Hid (∀y,pd[0]? =some y->Ap (λb=>Z b\/b=w1.heap.size) m r t u4 y/\Ty (w5.setRow w1.heap.size pd) y):=hZ (λy hy=>⟨(HQF.out y hy).1,(HQF.out y hy).2.row Qq.out (by decide) _⟩);obtain⟨w6,xO⟩:∃w6,w6=w5.setRow w1.heap.size pd:=⟨_,rfl⟩;rw[<-xO] at Ye M6 F6 P6 HF6⊢;clear xO hk6 hs6 l5 lm4;have M7:Hid (Mo (w6.setCells m 2 pd.toList) N (λb=>Z b\/b=w1.heap.size) m r t u4 c4 (rP Fe 2 pd.toList) { EV with rf:=aO EV.rf f 1 }):=hZ (M6.out.Q6 P6.out HF6.out);have F7:Hid (aN N w (w6.setCells m 2 pd.toList)):=hZ (F6.out.trans (M6.out.qU (eU _ _ _ _)));obtain⟨w7,hw7⟩:∃w7,w7=w6.setCells m 2 pd.toList:=⟨_,rfl⟩;have HW7:=hZ hw7;rw[<-hw7] at M7 F7;have lx6:=Ye.out.lt;have lm6:=M6.out.size;clear hw7;go_wp2_with(first
  |((with_reducible refine uR w1.heap.size ?_ Ye.out HQS.out ?_);rfl)
  |((with_reducible refine stM qB m 2 pd ?_ ?_ M6.out.X ?_ HQS.out HQ1.out ?_);rfl;rfl;exact(by rw[Yi.out];decide);rw[<-HW7.out])
  |(go_at_call 67;refine(mR _).mono ?_;rintro e w' ⟨rfl,hw⟩;rw[hw];clear hw))
 go_ret;refine⟨rfl,⟨u4,c4,rP Fe 2 pd.toList,?_⟩,F7.out⟩;rw[<-Nc.out,HV.out];exact M7.out.less λb hz=>.inl hz
structure vE (v:Vm) (f:Nat):Prop where
 n:takeN v=f
 l:f<64
 tb:Bytes v.ts
 rf:kR v.rf
 tl:v.tl.length<=1000
 zb:Bytes (dJ v).zs
 c:(yN v.rf=false/\sD (gJ v.rf)=(gJ (aO v.rf f 1),(f:Int),0))\/(yN v.rf=true/\sD (gJ v.rf)=(jA,0,4)/\(∃F S,Evi v F S)/\kR (bE v).rf/\sD (gJ (bE v).rf)=(gJ (aO (bE v).rf f 1),(f:Int),0))
theorem Np {w:World} {N m r t u c:Nat} {Z:Nat->Prop} {cs:Array Value} {v:Vm} (h:Mo w N Z m r t u c cs v) {f:Nat} (hT:vE v f):
 Calls Tryz.prog 60 #[.pointer (some ⟨m,0,none⟩)] w (Gi N Z m r t f (dJ v) w):=by
 rcases hT.c with⟨h1,h2⟩|⟨h1,h2,⟨F,S,h3⟩,h4,h5⟩
 ·have e:dJ v=sW v:=by unfold dJ;rw[h1,if_neg (by simp)]
  rw[e];exact aEQ h hT.rf h2
 ·have e:dJ v=sW (bE v):=by unfold dJ;rw[h1,if_pos rfl]
  rw[e];exact aEP h hT.tb hT.rf hT.tl h3 h2 h4 h5
theorem Mo.Bj {w:World} {N m r t u c:Nat} {Z:Nat->Prop} {cs:Array Value} {v:Vm} (h:Mo w N Z m r t u c cs v) {i:Nat} (hi:i<64) (b:Bool):
 Mo (w.setCell ⟨m,114+i,none⟩ (.bool b)) N Z m r t u c (cs.setIfInBounds (114+i) (.bool b)) { v with fx:=dV v.fx i b } :=by
 obtain⟨s1,s2,s3,s4⟩:=h.V.set (o:=114+i) (x:=.bool b) rfl;have k:∀q,q≠m->(w.setCell ⟨m,114+i,none⟩ (.bool b)).heap[q]? =w.heap[q]? :=λq hq=>gW w m _ _ q hq;have hs:w.heap.size<=(w.setCell ⟨m,114+i,none⟩ (.bool b)).heap.size:=by simp[World.setCell]
 exact h.put (v':= { v with fx:=dV v.fx i b }) hs (yV h.X) (λb _ hne=>k b hne) rfl rfl rfl ((h.V' (λb _ hne=>k b hne) hs).aO2 s1 s2 (λj hj=>s3 j (by omega)) hi (λj hj hne=>s3 _ (by omega)) (s4 (by omega)))
theorem Mo.kZ {w:World} {N m r t u c:Nat} {Z:Nat->Prop} {cs:Array Value} {v:Vm} (h:Mo w N Z m r t u c cs v) (o:Nat) (x:Value):aN N w (w.setCell ⟨m,o,none⟩ x):=h.qU ((bD.refl (λq=>q=m) w).cell (.inl rfl) _ _)
theorem Dm {w:World} {N m r t u c:Nat} {Z:Nat->Prop} {cs:Array Value} {v:Vm} (h:Mo w N Z m r t u c cs v) {f:Nat} (hT:vE v f):
 Calls Tryz.prog 36 #[.pointer (some ⟨m,0,none⟩)] w (Gi N Z m r t f (aQ v) w):=by
 have HV:Hid (aQ v= { ({ dJ v with fx:=dV (dJ v).fx f true } :Vm) with zs:=tX (dJ v).zs f }):=hZ (by unfold aQ;rw[hT.n];simp);have oN:=hZ (Np h hT);have HZB:=hZ hT.zb;have HL:=hZ hT.l;have hfi:(f:Int)<64:=by have:=hT.l;omega
 have hf0:(0:Int)<=(f:Int):=by omega
 clear h hT;go_enter Tryz.func36,Tryz.ntmps36;go_wp2_with fail
 refine oN.out.mono ?_;rintro e w1 ⟨rfl,⟨u1,c1,cs1,hM⟩,hfr⟩;have HM:=hZ hM;have HF:=hZ hfr;have M2:=hZ (hM.Bj HL.out true);have F2:=hZ (hfr.trans (hM.kZ (114+f) (.bool true)));have cf:=hM.Dw HL.out;have ff:=hM.free (114+f);have lm:=hM.size;obtain⟨w2,hw2⟩:∃w2,w2=w1.setCell ⟨m,114+f,none⟩ (.bool true):=⟨_,rfl⟩;have HW2:=hZ hw2;rw[<-hw2] at M2 F2;have cr:=M2.out.uE;have lr:=M2.out.size;have iZ:=hZ (aHN (some ⟨r,0,none⟩) 4096 4096 (dJ v).zs f w2 N M2.out.iX (by decide));rw[hw2] at cr lr;obtain⟨TV,hTV⟩:∃TV,TV=dJ v:=⟨_,rfl⟩;rw[<-hTV] at iZ HV M2 HM HZB;clear hM hfr hw2 hTV oN;go_wp2_with fail
 rw[<-HW2.out];refine iZ.out.mono ?_;rintro e w3 ⟨rfl,ho,hk⟩;have HO:=hZ ho;have HK:=hZ hk;clear ho hk cr lr cf ff;go_wp2;go_ret;refine⟨rfl,⟨u1,c1,cs1.setIfInBounds (114+f) (.bool true),?_⟩,F2.out.trans (M2.out.G5 (zs':=tX TV.zs f) HK.out)⟩;rw[HV.out];exact M2.out.aE7 HK.out HO.out
end Go.Proofs.YtoogfmbojlpjaaaGreat
