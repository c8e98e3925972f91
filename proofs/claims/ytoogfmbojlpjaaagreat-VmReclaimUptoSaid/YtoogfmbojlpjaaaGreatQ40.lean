/- Lemmas. -/
import Derived.Test.YtoogfmbojlpjaaaGreatQ39
import Derived.Defers
import Derived.Test.YtoogfmbojlpjaaaGreatQ30
import Derived.Test.YtoogfmbojlpjaaaGreatQA
set_option maxRecDepth 100000
set_option maxHeartbeats 32000000
set_option linter.unusedVariables false
set_option linter.unusedSimpArgs false
namespace Go.Proofs.YtoogfmbojlpjaaaGreat
open Go.ChangeShapes Go.WideShapes Go.ChangeAt Go.RowKit Go.Joins Go.Sort
section
theorem Z9 (F S:Int) (v:Vm):∀n,(iJ F S v n).ps=v.ps
 |0=>rfl
 |n+1=>by
  rw[Av,<-Z9 F S v n];unfold oQ;split<;>rfl
theorem aAJ (v:Vm):(bE v).ps=v.ps:=by
 unfold bE;split
 ·rfl
 ·exact Z9 _ _ (kT v) _
theorem Uc (v:Vm):(dJ v).ps=v.ps:=by
 unfold dJ;split
 ·exact aAJ v
 ·rfl
theorem Bi (v:Vm):(aQ v).ps=v.ps:=Uc v
def CM (N:Nat) (Z:Nat->Prop) (m r t:Nat) (ps:Nat->Vp) (w1:World) (w:World):Prop:=(∃v',Mr w N Z m r t v'/\v'.ps=ps)/\aN N w1 w
def MD (N:Nat) (C:World->Prop) (K:Nat) (i:Nat) (w w':World):Prop:=if i=K then(C w->C w')/\aN N w w' else Below w.heap.size w w'
section
variable {N m r t u c:Nat} {Z:Nat->Prop} {cs:Array Value} {v:Vm} {ps:Nat->Vp} {w w' w1:World}
theorem Mr.below (h:Mr w N Z m r t v) (hb:Below w.heap.size w w'):Mr w' N Z m r t v:=by
 obtain⟨u,c,cs,h⟩:=h;exact⟨u,c,cs,h.below hb⟩
theorem Mr.hN (h:Mr w N Z m r t v):N<=w.heap.size:=by
 obtain⟨u,c,cs,h⟩:=h;exact h.hN
theorem CM.below (h:CM N Z m r t ps w1 w) (hb:Below w.heap.size w w'):CM N Z m r t ps w1 w':=by
 obtain⟨⟨v',h1,h2⟩,h3⟩:=h;exact⟨⟨v',h1.below hb,h2⟩,h3.trans (aN.of h1.hN hb)⟩
theorem D7 (K:Nat) (v:Vm):vF (MD N (CM N Z m r t ps w1) K) (CM N Z m r t ps w1) [([K],λw=>Mr w N Z m r t v)]:=by
 refine⟨λi w=> ?_,λi w w' hc hm=> ?_,λp hp i hi w w' h hm=> ?_⟩
 ·unfold MD;split
  ·exact⟨id,aN.refl _ _⟩
  ·exact Below.refl _ _
 ·unfold MD at hm
  split at hm
  ·exact hm.1 hc
  ·exact hc.below hm
 ·obtain rfl:p=_:=by simpa using hp
  unfold MD at hm;rw[if_neg (by simpa using hi)] at hm;exact Mr.below h hm
def fG.yI {C:World->Prop} {K:Nat} (x:Value) (v:Vm):fG (MD N C K):=⟨K,none,[],λu=>u=x,λ_ _ w=>Mr w N Z m r t v,⟨x,rfl⟩,λi _ hi u v w w' h hm=>by
 unfold MD at hm;rw[if_neg hi] at hm;exact Mr.below h hm⟩
def noW (w:World):World:= { w with heap:= #[] }
theorem CM.noW (h:CM N Z m r t ps w1 w):Below (noW w1).heap.size (noW w1) w:=⟨h.2.1.os,h.2.1.tape,h.2.1.output,Nat.zero_le _,λk hk=>absurd hk (by simp[Go.Proofs.YtoogfmbojlpjaaaGreat.noW])⟩
theorem Mr.cm (h:Mr w N Z m r t v):CM N Z m r t v.ps w w:=⟨⟨v,h,rfl⟩,aN.refl _ _⟩
theorem CM.uE (h:CM N Z m r t ps w1 w):w.cell? ⟨m,0,none⟩=some (.slice (some ⟨r,0,none⟩) 4096 4096)/\m<w.heap.size:=by
 obtain⟨⟨v',⟨u,c,cs,h1⟩,h2⟩,h3⟩:=h;exact⟨h1.uE,h1.size⟩
theorem CM.rE (h:CM N Z m r t ps w1 w) {k:Nat} (hk:k<4):w.cell? ⟨m,69+k*11+1,none⟩=some (.int .i64 (ps k).root)/\m<w.heap.size:=by
 obtain⟨⟨v',⟨u,c,cs,h1⟩,h2⟩,h3⟩:=h;exact⟨by rw[<-h2];exact h1.rE hk,h1.size⟩
end
theorem rG {N m r t:Nat} {Z:Nat->Prop} {ps:Nat->Vp} {w1 w:World} {K:Nat} {x:Value} {v':Vm} {o:Oper} {a:Act} {f:FuncId} {args:Array Value} (hC:CM N Z m r t ps w1 w) (hp:v'.ps=ps) (h:(execOp a.eval o).run Tryz.prog w=.ok (.enter f args) w)
 (hc:Calls Tryz.prog f args w λe w'=>e=.returned x/\Mr w' N Z m r t v'/\aN N w w'):
 gG (MD N (CM N Z m r t ps w1) K K) Tryz.prog o a w λu w'=>(fG.yI (C:=CM N Z m r t ps w1) (K:=K) (N:=N) (Z:=Z) (m:=m) (r:=r) (t:=t) x v').shape u/\(fG.yI (C:=CM N Z m r t ps w1) (K:=K) (N:=N) (Z:=Z) (m:=m) (r:=r) (t:=t) x v').fact undef u w':=
 pU h (hc.mono λe w' ⟨h1,h2,h3⟩=>⟨x,h1,by unfold MD;rw[if_pos rfl];exact⟨λ_=>⟨⟨v',h2,hp⟩,hC.2.trans h3⟩,h3⟩,rfl,h2⟩)
end
theorem aBk {w:World} {N m r t u c:Nat} {Z:Nat->Prop} {cs:Array Value} {v:Vm} (h:Mo w N Z m r t u c cs v) {f:Nat} (hf:f<64) {b4 b7:Nat} (h4:Bx w b4 51 #[.pointer (some ⟨m,0,none⟩)]) (h7:Bx w b7 147 #[.int .i64 1,.int .i64 f]) (U:FrameMode):
 CallsD Tryz.prog 124 #[.pointer (some ⟨b4,0,none⟩),.pointer (some ⟨b7,0,none⟩)] U w λe u' w'=>u'=U/\Gv N Z m r t { v with fx:=dV v.fx f false } w e w':=by
 have HM:=hZ h;have a4:w.cell? ⟨b4,0,none⟩=some (.pointer (some ⟨m,0,none⟩)):=(h4.cell 0).trans rfl;have a7:w.cell? ⟨b7,1,none⟩=some (.int .i64 f):=(h7.cell 1).trans rfl;have l4:=h4.lt;have l7:=h7.lt;have Fx:=hZ hf;have hfi:(f:Int)<64:=by omega
 have hf0:(0:Int)<=(f:Int):=by omega
 clear h h4 h7 hf
 go_enter_d Tryz.func124,Tryz.ntmps124
 refine kD 6 [] (by kernel_rfl) (by kernel_rfl) (by kernel_rfl) ?_;intro V hV;have gc:∀(d:Nat) (os:Array Obj) (b o:Nat),b<w.heap.size->(grow (redrawn w d) os).cell? ⟨b,o,none⟩=w.cell? ⟨b,o,none⟩:=λd os b o h=>(below_regrown _ d os).cell (p:=⟨b,o,none⟩) h;simp only[List.take_succ_cons,List.take_zero,List.drop_succ_cons,List.drop_zero];iterate 3 (refine rq rfl rfl ?_;go_big_quiet_step(fail);refine wpQuiet_nil ?_)
 refine rn ⟨m,0,none⟩ (by kernel_rfl) rfl rfl ?_;go_big_quiet_step(fail);refine wpQuiet_nil ?_;iterate 2 (refine rq rfl rfl ?_;go_big_quiet_step(fail);refine wpQuiet_nil ?_)
 refine rend ?_;intro w6 hb6 hf;clear hf hV gc;have M6:=hZ (HM.out.below hb6);have F6:=hZ (aN.of HM.out.hN hb6);have cf:=M6.out.Dw Fx.out;have ff:=M6.out.free (114+f);have l6:=M6.out.size;clear hb6;go_wp2
 go_end0
 exact⟨rfl,⟨u,c,_,M6.out.Bj Fx.out false⟩,F6.out.trans (M6.out.kZ (114+f) (.bool false))⟩
structure xD (v:Vm) (k:Nat) (page K X:Int):Prop where
 b1:Bytes v.zs
 lf:aG v.zs (v.ps k).root page=0\/(aG v.zs (v.ps k).root page=3/\∃f,vE (gN v K X true) f/\Bytes (aQ (gN v K X true)).zs/\wM (aQ (gN v K X true)).zs (v.ps k).root page f=0)
 b2:Bytes (bG (gN v K X true) k page).zs
 tl:(bG (gN v K X true) k page).tl.length<=1000
 pt:nO (bG (gN v K X true) k page).zs (v.ps k).root page K X=0
theorem Jf (v:Vm) (K X:Int) (b:Bool):(gN v K X b).zs=v.zs/\(gN v K X b).ps=v.ps:=by unfold gN;split<;>exact⟨rfl,rfl⟩
theorem Bq (v:Vm) (k:Nat) (page:Int):(bG v k page).ps=v.ps:=by
 unfold bG;split
 ·exact Bi v
 ·rfl
theorem aKC {w:World} {N m r t u c:Nat} {Z:Nat->Prop} {cs:Array Value} {v:Vm} (h:Mo w N Z m r t u c cs v) {k:Nat} (hk:k<4) (page:Int) {f:Nat} (hf:f<64) (hS:xD v k page 1 (f:Int)) (hL:aG v.zs (v.ps k).root page=0):
 Calls Tryz.prog 80 #[.pointer (some ⟨m,0,none⟩),.int .i64 k,.int .i64 page,.agg #[.int .i64 1,.int .i64 (f:Int)]] w (Gv N Z m r t (gI v k page 1 (f:Int)) w):=by
 have hw0:=(aD w (.cells #[.pointer (some ⟨m,0,none⟩)] 51)).trans ((aD _ (.cells #[.int .i64 1,.int .i64 (f:Int)] 147)).mono (by simp));have B4:=(Bx.new w 51 #[.pointer (some ⟨m,0,none⟩)]).below (aD _ (.cells #[.int .i64 1,.int .i64 (f:Int)] 147));have B7:=Bx.new (w.alloc (.cells #[.pointer (some ⟨m,0,none⟩)] 51)) 147 #[.int .i64 1,.int .i64 (f:Int)];rw[World.size_alloc] at B7;have h1:=h.below hw0;have lT:=hZ (aN.of h.hN hw0);obtain⟨w0,hw⟩:∃w0,w0=(w.alloc (.cells #[.pointer (some ⟨m,0,none⟩)] 51)).alloc (.cells #[.int .i64 1,.int .i64 (f:Int)] 147):=⟨_,rfl⟩;rw[<-hw] at h1 B4 B7 lT;have HM:=hZ h1;have H4:=hZ B4;have H7:=hZ B7;have a4:w0.cell? ⟨w.heap.size,0,none⟩=some (.pointer (some ⟨m,0,none⟩)):=(B4.cell 0).trans rfl;have a70:w0.cell? ⟨w.heap.size+1,0,none⟩=some (.int .i64 1):=(B7.cell 0).trans rfl;have a71:w0.cell? ⟨w.heap.size+1,1,none⟩=some (.int .i64 (f:Int)):=(B7.cell 1).trans rfl;have l4:=B4.lt;have l7:=B7.lt;have HK:=hZ hk;have HS:=hZ hS;have HL:=hZ hL;have hki:(k:Int)<4:=by omega
 have hk0:(0:Int)<=(k:Int):=by omega
 have Fx:=hZ hf;have hfi:(f:Int)<64:=by omega
 have hf0:(0:Int)<=(f:Int):=by omega
 have hmf:∀(fn:Fn) (first cap:Array Value) (w:World),(Instr.makeFunc fn first cap).run Tryz.prog w=.ok (.func fn first cap) w:=λ_ _ _ _=>rfl;clear hf;clear h h1 B4 B7 hw0 hk hS hL
 go_enter_defers Tryz.func80,Tryz.ntmps80
 go_wp2;rw[<-hw];clear hw;refine kD 6 [] (by kernel_rfl) (by kernel_rfl) (by kernel_rfl) ?_;intro V hV;have gc:∀(d:Nat) (os:Array Obj) (b o:Nat),b<w0.heap.size->(grow (redrawn w0 d) os).cell? ⟨b,o,none⟩=w0.cell? ⟨b,o,none⟩:=λd os b o h=>(below_regrown _ d os).cell (p:=⟨b,o,none⟩) h;simp only[List.take_succ_cons,List.take_zero,List.drop_succ_cons,List.drop_zero];iterate 3 (refine rq rfl rfl ?_;go_big_quiet_step(fail);refine wpQuiet_nil ?_)
 refine rn ⟨m,0,none⟩ (by kernel_rfl) rfl rfl ?_;go_big_quiet_step(fail);refine wpQuiet_nil ?_;iterate 2 (refine rq rfl rfl ?_;go_big_quiet_step(fail);refine wpQuiet_nil ?_)
 refine rend ?_;intro w1 hb1 hf;clear hf hV gc a4 a70 a71 l4 l7;have M1:=hZ (HM.out.below hb1);have F1:=hZ (lT.out.trans (aN.of HM.out.hN hb1));have cf:=M1.out.Dw Fx.out;have ff:=M1.out.free (114+f);have l1:=M1.out.size;have M2:=hZ (M1.out.Bj Fx.out true);have F2:=hZ (F1.out.trans (M1.out.kZ (114+f) (.bool true)));have Fy:=hZ ((H4.out.below hb1).bM (M1.out.kZ (114+f) (.bool true)) (by decide) (by decide) (by decide));have Qz:=hZ ((H7.out.below hb1).bM (M1.out.kZ (114+f) (.bool true)) (by decide) (by decide) (by decide));clear hb1;go_wp2;obtain⟨w2,hw2⟩:∃w2,w2=w1.setCell ⟨m,114+f,none⟩ (.bool true):=⟨_,rfl⟩;rw[<-hw2] at M2 F2 Fy Qz⊢;clear hw2 cf ff l1 F1 M1;have zD:Hid (gN v 1 f true= { v with fx:=dV v.fx f true }):=hZ (by unfold gN;simp);rw[<-zD.out] at M2;have a4:w2.cell? ⟨w.heap.size,0,none⟩=some (.pointer (some ⟨m,0,none⟩)):=(Fy.out.cell 0).trans rfl;have l4:=Fy.out.lt;obtain⟨v1,hv1⟩:∃v1,v1=gN v 1 (f:Int) true:=⟨_,rfl⟩;have hzs:v1.zs=v.zs/\v1.ps=v.ps:=by rw[hv1];exact Jf _ _ _ _
 rw[<-hv1] at M2;have wH:Hid (aG v1.zs (v1.ps k).root page=0):=hZ (by rw[hzs.1,hzs.2];exact HL.out);have iZ:=hZ (λW (hW:Below w2.heap.size w2 W)=>wY (some ⟨r,0,none⟩) 4096 4096 v1.zs (v1.ps k).root page W _ (M2.out.below hW).zY (nR _) (by rw[hzs.1];exact HS.out.b1) (by decide));rw[wH.out] at iZ;have c0:=M2.out.uE;have cr:w2.cell? ⟨m,69+k*11+1,none⟩=some (.int .i64 (v1.ps k).root):=M2.out.rE HK.out;have l2:=M2.out.size;have iG:=hZ hv1;have Yc:=hZ hzs;clear hv1 hzs;generalize aK v1.zs (v1.ps k).root page=LV at*;have gc:∀(d:Nat) (os:Array Obj) (b o:Nat),b<w2.heap.size->(grow (redrawn w2 d) os).cell? ⟨b,o,none⟩=w2.cell? ⟨b,o,none⟩:=λd os b o h=>(below_regrown _ d os).cell (p:=⟨b,o,none⟩) h;refine fK [Sp.call 12 (.tuple #[.int .i64 LV,.int .i64 0])] (by kernel_rfl) (by kernel_rfl) ?_;intro V hV;have e12:V 12=.tuple #[.int .i64 LV,.int .i64 0]:=hV 12
 (refine rq rfl rfl ?_;go_big_quiet_step(fail);refine wpQuiet_nil ?_)
 refine rn ⟨m,0,none⟩ (by kernel_rfl) rfl rfl ?_;go_big_quiet_step(fail);refine wpQuiet_nil ?_;iterate 4 (refine rq rfl rfl ?_;go_big_quiet_step(fail);refine wpQuiet_nil ?_)
 refine rn ⟨m,0,none⟩ (by kernel_rfl) rfl rfl ?_;go_big_quiet_step(fail);refine wpQuiet_nil ?_;iterate 5 (refine rq rfl rfl ?_;go_big_quiet_step(fail);refine wpQuiet_nil ?_)
 refine mQ (Sp.call 12 _) (by kernel_rfl) rfl (λw' hb hf=> ?_) ?_
 ·refine iB (f:=81) (args:= #[.slice (some ⟨r,0,none⟩) 4096 4096,.int .i64 (v1.ps k).root,.int .i64 page]) ?_ (iZ.out w' hb)
  go_simp
 go_big_quiet_step(fail);refine wpQuiet_nil ?_;simp only[e12];iterate 5 (refine rq rfl rfl ?_;go_big_quiet_step(fail);refine wpQuiet_nil ?_)
 refine rend ?_;intro w3 hb3 hf;have M3:=hZ (M2.out.below hb3);have F3:=hZ (F2.out.trans (aN.of M2.out.hN hb3));have Ci:=hZ (Fy.out.below hb3);have H73:=hZ (Qz.out.below hb3);clear hf hV gc e12 hb3 a4 l4 c0 cr l2 iZ;have a4:w3.cell? ⟨w.heap.size,0,none⟩=some (.pointer (some ⟨m,0,none⟩)):=(Ci.out.cell 0).trans rfl;have l4:=Ci.out.lt;have HLY:Hid (bG v1 k page=v1):=hZ (by unfold bG;rw[if_neg (by rw[wH.out];decide)]);have M5:Hid (Mo w3 N Z m r t u c (cs.setIfInBounds (114+f) (.bool true)) (bG v1 k page)):=hZ (by rw[HLY.out];exact M3.out);have F5:=F3;have Jw:=Ci;have wI:=H73;obtain⟨w5,nJ⟩:∃w5,w5=w3:=⟨_,rfl⟩;rw[<-nJ] at M5 F5 Jw wI a4 l4⊢;clear nJ;have a70:w5.cell? ⟨w.heap.size+1,0,none⟩=some (.int .i64 1):=(wI.out.cell 0).trans rfl;have a71:w5.cell? ⟨w.heap.size+1,1,none⟩=some (.int .i64 (f:Int)):=(wI.out.cell 1).trans rfl;have l7:=wI.out.lt;have qG:Hid ((bG v1 k page).ps=v.ps):=hZ (by rw[Bq];exact Yc.out.2);have Mx:Hid (Calls Tryz.prog 69 #[.pointer (some ⟨m,0,none⟩),.int .i64 k,.int .i64 page,.agg #[.int .i64 1,.int .i64 (f:Int)]] w5 (Gv N Z m r t (eT (bG v1 k page) k page 1 (f:Int)) w5)):=hZ (by
  refine xG M5.out ?_ ?_ k HK.out page 1 (f:Int) ?_
  ·rw[iG.out];exact HS.out.b2
  ·rw[iG.out];exact HS.out.tl
  ·rw[qG.out,iG.out];exact HS.out.pt)
 go_wp2_with(go_at_call 69
             refine Mx.out.mono ?_;rintro e w6 ⟨rfl,⟨u6,c6,Da,rV⟩,sN⟩;have M6:=hZ rV;have F6:=hZ (F5.out.trans sN);have H46:=hZ (Jw.out.bM sN (by decide) (by decide) (by decide));have H76:=hZ (wI.out.bM sN (by decide) (by decide) (by decide));clear rV sN a4 a70 a71 l4 l7)
 refine leaves_cons (f:=124) (args:= #[.pointer (some ⟨w.heap.size,0,none⟩),.pointer (some ⟨w.heap.size+1,0,none⟩)]) (by simp) (by simp[go_sem]) ?_;refine(aBk M6.out Fx.out H46.out H76.out .returning).mono ?_;rintro e u' w7 ⟨rfl,rfl,hm7,hf7⟩;refine⟨_,results_none rfl _ _ _,rfl,?_,F6.out.trans hf7⟩;have e7:gI v k page 1 f= { eT (bG v1 k page) k page 1 f with fx:=dV (eT (bG v1 k page) k page 1 f).fx f false } :=by
  unfold gI;rw[<-iG.out];unfold gN;simp
 rw[e7];exact hm7
theorem aKB {w:World} {N m r t u c:Nat} {Z:Nat->Prop} {cs:Array Value} {v:Vm} (h:Mo w N Z m r t u c cs v) {k:Nat} (hk:k<4) (page:Int) {f:Nat} (hf:f<64) (hS:xD v k page 1 (f:Int)) (hL:aG v.zs (v.ps k).root page=3):
 Calls Tryz.prog 80 #[.pointer (some ⟨m,0,none⟩),.int .i64 k,.int .i64 page,.agg #[.int .i64 1,.int .i64 (f:Int)]] w (Gv N Z m r t (gI v k page 1 (f:Int)) w):=by
 have hw0:=(aD w (.cells #[.pointer (some ⟨m,0,none⟩)] 51)).trans ((aD _ (.cells #[.int .i64 1,.int .i64 (f:Int)] 147)).mono (by simp));have B4:=(Bx.new w 51 #[.pointer (some ⟨m,0,none⟩)]).below (aD _ (.cells #[.int .i64 1,.int .i64 (f:Int)] 147));have B7:=Bx.new (w.alloc (.cells #[.pointer (some ⟨m,0,none⟩)] 51)) 147 #[.int .i64 1,.int .i64 (f:Int)];rw[World.size_alloc] at B7;have h1:=h.below hw0;have lT:=hZ (aN.of h.hN hw0);obtain⟨w0,hw⟩:∃w0,w0=(w.alloc (.cells #[.pointer (some ⟨m,0,none⟩)] 51)).alloc (.cells #[.int .i64 1,.int .i64 (f:Int)] 147):=⟨_,rfl⟩;rw[<-hw] at h1 B4 B7 lT;have HM:=hZ h1;have H4:=hZ B4;have H7:=hZ B7;have a4:w0.cell? ⟨w.heap.size,0,none⟩=some (.pointer (some ⟨m,0,none⟩)):=(B4.cell 0).trans rfl;have a70:w0.cell? ⟨w.heap.size+1,0,none⟩=some (.int .i64 1):=(B7.cell 0).trans rfl;have a71:w0.cell? ⟨w.heap.size+1,1,none⟩=some (.int .i64 (f:Int)):=(B7.cell 1).trans rfl;have l4:=B4.lt;have l7:=B7.lt;have HK:=hZ hk;have HS:=hZ hS;have HL:=hZ hL;have hki:(k:Int)<4:=by omega
 have hk0:(0:Int)<=(k:Int):=by omega
 have Fx:=hZ hf;have hfi:(f:Int)<64:=by omega
 have hf0:(0:Int)<=(f:Int):=by omega
 have hmf:∀(fn:Fn) (first cap:Array Value) (w:World),(Instr.makeFunc fn first cap).run Tryz.prog w=.ok (.func fn first cap) w:=λ_ _ _ _=>rfl;clear hf;clear h h1 B4 B7 hw0 hk hS hL
 go_enter_defers Tryz.func80,Tryz.ntmps80
 go_wp2;rw[<-hw];clear hw;refine kD 6 [] (by kernel_rfl) (by kernel_rfl) (by kernel_rfl) ?_;intro V hV;have gc:∀(d:Nat) (os:Array Obj) (b o:Nat),b<w0.heap.size->(grow (redrawn w0 d) os).cell? ⟨b,o,none⟩=w0.cell? ⟨b,o,none⟩:=λd os b o h=>(below_regrown _ d os).cell (p:=⟨b,o,none⟩) h;simp only[List.take_succ_cons,List.take_zero,List.drop_succ_cons,List.drop_zero];iterate 3 (refine rq rfl rfl ?_;go_big_quiet_step(fail);refine wpQuiet_nil ?_)
 refine rn ⟨m,0,none⟩ (by kernel_rfl) rfl rfl ?_;go_big_quiet_step(fail);refine wpQuiet_nil ?_;iterate 2 (refine rq rfl rfl ?_;go_big_quiet_step(fail);refine wpQuiet_nil ?_)
 refine rend ?_;intro w1 hb1 hf;clear hf hV gc a4 a70 a71 l4 l7;have M1:=hZ (HM.out.below hb1);have F1:=hZ (lT.out.trans (aN.of HM.out.hN hb1));have cf:=M1.out.Dw Fx.out;have ff:=M1.out.free (114+f);have l1:=M1.out.size;have M2:=hZ (M1.out.Bj Fx.out true);have F2:=hZ (F1.out.trans (M1.out.kZ (114+f) (.bool true)));have Fy:=hZ ((H4.out.below hb1).bM (M1.out.kZ (114+f) (.bool true)) (by decide) (by decide) (by decide));have Qz:=hZ ((H7.out.below hb1).bM (M1.out.kZ (114+f) (.bool true)) (by decide) (by decide) (by decide));clear hb1;go_wp2;obtain⟨w2,hw2⟩:∃w2,w2=w1.setCell ⟨m,114+f,none⟩ (.bool true):=⟨_,rfl⟩;rw[<-hw2] at M2 F2 Fy Qz⊢;clear hw2 cf ff l1 F1 M1;have zD:Hid (gN v 1 f true= { v with fx:=dV v.fx f true }):=hZ (by unfold gN;simp);rw[<-zD.out] at M2;have a4:w2.cell? ⟨w.heap.size,0,none⟩=some (.pointer (some ⟨m,0,none⟩)):=(Fy.out.cell 0).trans rfl;have l4:=Fy.out.lt;obtain⟨v1,hv1⟩:∃v1,v1=gN v 1 (f:Int) true:=⟨_,rfl⟩;have hzs:v1.zs=v.zs/\v1.ps=v.ps:=by rw[hv1];exact Jf _ _ _ _
 rw[<-hv1] at M2;have wH:Hid (aG v1.zs (v1.ps k).root page=3):=hZ (by rw[hzs.1,hzs.2];exact HL.out);have iZ:=hZ (λW (hW:Below w2.heap.size w2 W)=>wY (some ⟨r,0,none⟩) 4096 4096 v1.zs (v1.ps k).root page W _ (M2.out.below hW).zY (nR _) (by rw[hzs.1];exact HS.out.b1) (by decide));rw[wH.out] at iZ;have c0:=M2.out.uE;have cr:w2.cell? ⟨m,69+k*11+1,none⟩=some (.int .i64 (v1.ps k).root):=M2.out.rE HK.out;have l2:=M2.out.size;have iG:=hZ hv1;have Yc:=hZ hzs;clear hv1 hzs;generalize aK v1.zs (v1.ps k).root page=LV at*;have gc:∀(d:Nat) (os:Array Obj) (b o:Nat),b<w2.heap.size->(grow (redrawn w2 d) os).cell? ⟨b,o,none⟩=w2.cell? ⟨b,o,none⟩:=λd os b o h=>(below_regrown _ d os).cell (p:=⟨b,o,none⟩) h;refine fK [Sp.call 12 (.tuple #[.int .i64 LV,.int .i64 3])] (by kernel_rfl) (by kernel_rfl) ?_;intro V hV;have e12:V 12=.tuple #[.int .i64 LV,.int .i64 3]:=hV 12
 (refine rq rfl rfl ?_;go_big_quiet_step(fail);refine wpQuiet_nil ?_)
 refine rn ⟨m,0,none⟩ (by kernel_rfl) rfl rfl ?_;go_big_quiet_step(fail);refine wpQuiet_nil ?_;iterate 4 (refine rq rfl rfl ?_;go_big_quiet_step(fail);refine wpQuiet_nil ?_)
 refine rn ⟨m,0,none⟩ (by kernel_rfl) rfl rfl ?_;go_big_quiet_step(fail);refine wpQuiet_nil ?_;iterate 5 (refine rq rfl rfl ?_;go_big_quiet_step(fail);refine wpQuiet_nil ?_)
 refine mQ (Sp.call 12 _) (by kernel_rfl) rfl (λw' hb hf=> ?_) ?_
 ·refine iB (f:=81) (args:= #[.slice (some ⟨r,0,none⟩) 4096 4096,.int .i64 (v1.ps k).root,.int .i64 page]) ?_ (iZ.out w' hb)
  go_simp
 go_big_quiet_step(fail);refine wpQuiet_nil ?_;simp only[e12];iterate 5 (refine rq rfl rfl ?_;go_big_quiet_step(fail);refine wpQuiet_nil ?_)
 refine rend ?_;intro w3 hb3 hf;have M3:=hZ (M2.out.below hb3);have F3:=hZ (F2.out.trans (aN.of M2.out.hN hb3));have Ci:=hZ (Fy.out.below hb3);have H73:=hZ (Qz.out.below hb3);clear hf hV gc e12 hb3 a4 l4 c0 cr l2 iZ;have a4:w3.cell? ⟨w.heap.size,0,none⟩=some (.pointer (some ⟨m,0,none⟩)):=(Ci.out.cell 0).trans rfl;have l4:=Ci.out.lt;obtain⟨f2,Su,hTB,hHE⟩:∃f2,vE v1 f2/\Bytes (aQ v1).zs/\wM (aQ v1).zs (v1.ps k).root page f2=0:=by
  rcases HS.out.lf with h0|⟨_,f2,h1,h2,h3⟩
  ·have:=HL.out;omega
  ·rw[Yc.out.2,iG.out];exact⟨f2,h1,h2,h3⟩
 have HLY:Hid (bG v1 k page= { aQ v1 with zs:=mU (aQ v1).zs (v1.ps k).root page f2 }):=hZ (by unfold bG;rw[if_pos wH.out,Su.n]);have oN:=hZ Su;have HHE:=hZ hHE;have hC0:CM N Z m r t v1.ps w3 { w3 with drawn:=w3.drawn+1 } :=CM.below (Mr.cm ⟨u,c,_,M3.out⟩) ⟨rfl,rfl,rfl,nR _,λ_ _=>rfl⟩;have hI0:Mr { w3 with drawn:=w3.drawn+1 } N Z m r t v1:=Mr.below ⟨u,c,_,M3.out⟩ ⟨rfl,rfl,rfl,nR _,λ_ _=>rfl⟩;have Jt:Hid (∀W,CM N Z m r t v1.ps w3 W->W.cell? ⟨w.heap.size,0,none⟩=some (.pointer (some ⟨m,0,none⟩))/\w.heap.size<W.heap.size):=hZ (λW hW=>by
  have:=Ci.out.bM hW.2 (by decide) (by decide) (by decide);exact⟨(this.cell 0).trans rfl,this.lt⟩)
 clear Su hTB hHE a4 l4;go_wp2;refine J2 14 (MD N (CM N Z m r t v1.ps w3) 13) (CM N Z m r t v1.ps w3) [([13],λw=>Mr w N Z m r t v1)] [fG.yI (C:=CM N Z m r t v1.ps w3) (K:=13) (N:=N) (Z:=Z) (m:=m) (r:=r) (t:=t) (.int .i64 f2) (aQ v1)] (by kernel_rfl) (D7 13 v1) hC0 (λp hp=>by rcases List.mem_singleton.1 hp with rfl;exact hI0) (by kernel_rfl) (by kernel_rfl) (by kernel_rfl) ?_;intro V hV;have e13:V 13=.int .i64 f2:=hV 13;simp only[List.take_succ_cons,List.take_zero,List.drop_succ_cons,List.drop_zero];refine df (noW w3) (.pointer (some ⟨m,0,none⟩)) (by kernel_rfl) rfl (λw' hC hi hf=>by obtain⟨q1,q2⟩:=Jt.out _ hC;go_simp) ?_;go_big_quiet_step(fail);refine wpQuiet_nil ?_;refine dn (noW w3) ⟨m,0,none⟩ (by kernel_rfl) rfl rfl ?_;go_big_quiet_step(fail);refine wpQuiet_nil ?_;refine dq (noW w3) (λw h=>h.noW) rfl rfl ?_;go_big_quiet_step(fail);refine wpQuiet_nil ?_;refine df (noW w3) (.slice (some ⟨r,0,none⟩) 4096 4096) (by kernel_rfl) rfl (λw' hC hi hf=>by obtain⟨q1,q2⟩:=hC.uE;go_simp) ?_;go_big_quiet_step(fail);refine wpQuiet_nil ?_;refine df (noW w3) (.pointer (some ⟨m,0,none⟩)) (by kernel_rfl) rfl (λw' hC hi hf=>by obtain⟨q1,q2⟩:=Jt.out _ hC;go_simp) ?_;go_big_quiet_step(fail);refine wpQuiet_nil ?_;refine dq (noW w3) (λw h=>h.noW) rfl rfl ?_;go_big_quiet_step(fail);refine wpQuiet_nil ?_;refine dn (noW w3) ⟨m,0,none⟩ (by kernel_rfl) rfl rfl ?_;go_big_quiet_step(fail);refine wpQuiet_nil ?_;refine dq (noW w3) (λw h=>h.noW) rfl rfl ?_;go_big_quiet_step(fail);refine wpQuiet_nil ?_;refine dq (noW w3) (λw h=>h.noW) rfl rfl ?_;go_big_quiet_step(fail);refine wpQuiet_nil ?_;refine dq (noW w3) (λw h=>h.noW) rfl rfl ?_;go_big_quiet_step(fail);refine wpQuiet_nil ?_;refine df (noW w3) (.int .i64 (v1.ps k).root) (by kernel_rfl) rfl (λw' hC hi hf=>by obtain⟨q1,q2⟩:=hC.rE HK.out;go_simp) ?_;go_big_quiet_step(fail);refine wpQuiet_nil ?_;refine dq (noW w3) (λw h=>h.noW) rfl rfl ?_;go_big_quiet_step(fail);refine wpQuiet_nil ?_;refine df (noW w3) (.pointer (some ⟨m,0,none⟩)) (by kernel_rfl) rfl (λw' hC hi hf=>by obtain⟨q1,q2⟩:=Jt.out _ hC;go_simp) ?_;go_big_quiet_step(fail);refine wpQuiet_nil ?_;refine P8 (noW w3) (fG.yI (.int .i64 f2) (aQ v1)) (by kernel_rfl) rfl (λw' hC hi hf=> ?_) ?_
 ·have hm:Mr w' N Z m r t v1:=hi _ (List.Mem.head _) (by kernel_rfl)
  obtain⟨u',c',cs',hm⟩:=hm;exact rG (f:=36) (args:= #[.pointer (some ⟨m,0,none⟩)]) hC (Bi v1) (by go_simp) (Dm hm oN.out)
 go_big_quiet_step(fail);refine wpQuiet_nil ?_;simp only[e13];refine Zl ?_;intro w4 Je hi hf;have qD:Mr w4 N Z m r t (aQ v1):=hf _ (List.Mem.head _) rfl;have Vk:=hZ Je;have HM4:=hZ qD;clear hi hf hV e13 Je qD hC0 hI0;obtain⟨u4,c4,Fe,Yb⟩:=HM4.out;have F4:=hZ (F3.out.trans Vk.out.2);have H44:=hZ (Ci.out.bM Vk.out.2 (by decide) (by decide) (by decide));have H74:=hZ (H73.out.bM Vk.out.2 (by decide) (by decide) (by decide));have M4:=hZ Yb;have HHG:=hZ (aCE (some ⟨r,0,none⟩) 4096 4096 (aQ v1).zs (v1.ps k).root page f2 w4 N Yb.iX Yb.hN (by decide));rw[HHE.out] at HHG;clear Yb;go_wp2_with(first
  |(go_at_call 67;refine(mR _).mono ?_;rintro e w' ⟨rfl,hw⟩;rw[hw];clear hw)
  |(go_at_call 125
    refine HHG.out.mono ?_;rintro e w5 ⟨rfl,ho,hkk⟩;have M5:Hid (Mo w5 N Z m r t u4 c4 Fe (bG v1 k page)):=hZ (by rw[HLY.out];exact M4.out.aE7 hkk ho);have F5:=hZ (F4.out.trans (M4.out.G5 (zs':=(bG v1 k page).zs) hkk));have Jw:=hZ (H44.out.bM (M4.out.G5 (zs':=(bG v1 k page).zs) hkk) (by decide) (by decide) (by decide));have wI:=hZ (H74.out.bM (M4.out.G5 (zs':=(bG v1 k page).zs) hkk) (by decide) (by decide) (by decide));have a4:w5.cell? ⟨w.heap.size,0,none⟩=some (.pointer (some ⟨m,0,none⟩)):=(Jw.out.cell 0).trans rfl;have l4:=Jw.out.lt;have a70:w5.cell? ⟨w.heap.size+1,0,none⟩=some (.int .i64 1):=(wI.out.cell 0).trans rfl;have a71:w5.cell? ⟨w.heap.size+1,1,none⟩=some (.int .i64 (f:Int)):=(wI.out.cell 1).trans rfl;have l7:=wI.out.lt;clear ho hkk))
 have qG:Hid ((bG v1 k page).ps=v.ps):=hZ (by rw[Bq];exact Yc.out.2);have Mx:Hid (Calls Tryz.prog 69 #[.pointer (some ⟨m,0,none⟩),.int .i64 k,.int .i64 page,.agg #[.int .i64 1,.int .i64 (f:Int)]] w5 (Gv N Z m r t (eT (bG v1 k page) k page 1 (f:Int)) w5)):=hZ (by
  refine xG M5.out ?_ ?_ k HK.out page 1 (f:Int) ?_
  ·rw[iG.out];exact HS.out.b2
  ·rw[iG.out];exact HS.out.tl
  ·rw[qG.out,iG.out];exact HS.out.pt)
 go_wp2_with(go_at_call 69
             refine Mx.out.mono ?_;rintro e w6 ⟨rfl,⟨u6,c6,Da,rV⟩,sN⟩;have M6:=hZ rV;have F6:=hZ (F5.out.trans sN);have H46:=hZ (Jw.out.bM sN (by decide) (by decide) (by decide));have H76:=hZ (wI.out.bM sN (by decide) (by decide) (by decide));clear rV sN a4 a70 a71 l4 l7)
 refine leaves_cons (f:=124) (args:= #[.pointer (some ⟨w.heap.size,0,none⟩),.pointer (some ⟨w.heap.size+1,0,none⟩)]) (by simp) (by simp[go_sem]) ?_;refine(aBk M6.out Fx.out H46.out H76.out .returning).mono ?_;rintro e u' w7 ⟨rfl,rfl,hm7,hf7⟩;refine⟨_,results_none rfl _ _ _,rfl,?_,F6.out.trans hf7⟩;have e7:gI v k page 1 f= { eT (bG v1 k page) k page 1 f with fx:=dV (eT (bG v1 k page) k page 1 f).fx f false } :=by
  unfold gI;rw[<-iG.out];unfold gN;simp
 rw[e7];exact hm7
theorem aKA {w:World} {N m r t u c:Nat} {Z:Nat->Prop} {cs:Array Value} {v:Vm} (h:Mo w N Z m r t u c cs v) {k:Nat} (hk:k<4) (page:Int) (X:Int) (hS:xD v k page 2 X) (hL:aG v.zs (v.ps k).root page=0):
 Calls Tryz.prog 80 #[.pointer (some ⟨m,0,none⟩),.int .i64 k,.int .i64 page,.agg #[.int .i64 2,.int .i64 X]] w (Gv N Z m r t (gI v k page 2 X) w):=by
 have hw0:=(aD w (.cells #[.pointer (some ⟨m,0,none⟩)] 51)).trans ((aD _ (.cells #[.int .i64 2,.int .i64 X] 147)).mono (by simp));have B4:=(Bx.new w 51 #[.pointer (some ⟨m,0,none⟩)]).below (aD _ (.cells #[.int .i64 2,.int .i64 X] 147));have B7:=Bx.new (w.alloc (.cells #[.pointer (some ⟨m,0,none⟩)] 51)) 147 #[.int .i64 2,.int .i64 X];rw[World.size_alloc] at B7;have h1:=h.below hw0;have lT:=hZ (aN.of h.hN hw0);obtain⟨w0,hw⟩:∃w0,w0=(w.alloc (.cells #[.pointer (some ⟨m,0,none⟩)] 51)).alloc (.cells #[.int .i64 2,.int .i64 X] 147):=⟨_,rfl⟩;rw[<-hw] at h1 B4 B7 lT;have HM:=hZ h1;have H4:=hZ B4;have H7:=hZ B7;have a4:w0.cell? ⟨w.heap.size,0,none⟩=some (.pointer (some ⟨m,0,none⟩)):=(B4.cell 0).trans rfl;have a70:w0.cell? ⟨w.heap.size+1,0,none⟩=some (.int .i64 2):=(B7.cell 0).trans rfl;have a71:w0.cell? ⟨w.heap.size+1,1,none⟩=some (.int .i64 X):=(B7.cell 1).trans rfl;have l4:=B4.lt;have l7:=B7.lt;have HK:=hZ hk;have HS:=hZ hS;have HL:=hZ hL;have hki:(k:Int)<4:=by omega
 have hk0:(0:Int)<=(k:Int):=by omega
 clear h h1 B4 B7 hw0 hk hS hL
 go_enter_defers Tryz.func80,Tryz.ntmps80
 go_wp2;rw[<-hw];clear hw;have zD:Hid (gN v 2 X true=v):=hZ (by unfold gN;simp);have M2:Hid (Mo w0 N Z m r t u c cs (gN v 2 X true)):=hZ (by rw[zD.out];exact HM.out);have F2:=lT;have Fy:=H4;have Qz:=H7;obtain⟨w2,hw2⟩:∃w2,w2=w0:=⟨_,rfl⟩;rw[<-hw2] at M2 F2 Fy Qz a4 l4⊢;clear hw2 a70 a71 l7 lT HM H4 H7;obtain⟨v1,hv1⟩:∃v1,v1=gN v 2 X true:=⟨_,rfl⟩;have hzs:v1.zs=v.zs/\v1.ps=v.ps:=by rw[hv1];exact Jf _ _ _ _
 rw[<-hv1] at M2;have wH:Hid (aG v1.zs (v1.ps k).root page=0):=hZ (by rw[hzs.1,hzs.2];exact HL.out);have iZ:=hZ (λW (hW:Below w2.heap.size w2 W)=>wY (some ⟨r,0,none⟩) 4096 4096 v1.zs (v1.ps k).root page W _ (M2.out.below hW).zY (nR _) (by rw[hzs.1];exact HS.out.b1) (by decide));rw[wH.out] at iZ;have c0:=M2.out.uE;have cr:w2.cell? ⟨m,69+k*11+1,none⟩=some (.int .i64 (v1.ps k).root):=M2.out.rE HK.out;have l2:=M2.out.size;have iG:=hZ hv1;have Yc:=hZ hzs;clear hv1 hzs;generalize aK v1.zs (v1.ps k).root page=LV at*;have gc:∀(d:Nat) (os:Array Obj) (b o:Nat),b<w2.heap.size->(grow (redrawn w2 d) os).cell? ⟨b,o,none⟩=w2.cell? ⟨b,o,none⟩:=λd os b o h=>(below_regrown _ d os).cell (p:=⟨b,o,none⟩) h;refine fK [Sp.call 12 (.tuple #[.int .i64 LV,.int .i64 0])] (by kernel_rfl) (by kernel_rfl) ?_;intro V hV;have e12:V 12=.tuple #[.int .i64 LV,.int .i64 0]:=hV 12
 (refine rq rfl rfl ?_;go_big_quiet_step(fail);refine wpQuiet_nil ?_)
 refine rn ⟨m,0,none⟩ (by kernel_rfl) rfl rfl ?_;go_big_quiet_step(fail);refine wpQuiet_nil ?_;iterate 4 (refine rq rfl rfl ?_;go_big_quiet_step(fail);refine wpQuiet_nil ?_)
 refine rn ⟨m,0,none⟩ (by kernel_rfl) rfl rfl ?_;go_big_quiet_step(fail);refine wpQuiet_nil ?_;iterate 5 (refine rq rfl rfl ?_;go_big_quiet_step(fail);refine wpQuiet_nil ?_)
 refine mQ (Sp.call 12 _) (by kernel_rfl) rfl (λw' hb hf=> ?_) ?_
 ·refine iB (f:=81) (args:= #[.slice (some ⟨r,0,none⟩) 4096 4096,.int .i64 (v1.ps k).root,.int .i64 page]) ?_ (iZ.out w' hb)
  go_simp
 go_big_quiet_step(fail);refine wpQuiet_nil ?_;simp only[e12];iterate 5 (refine rq rfl rfl ?_;go_big_quiet_step(fail);refine wpQuiet_nil ?_)
 refine rend ?_;intro w3 hb3 hf;have M3:=hZ (M2.out.below hb3);have F3:=hZ (F2.out.trans (aN.of M2.out.hN hb3));have Ci:=hZ (Fy.out.below hb3);have H73:=hZ (Qz.out.below hb3);clear hf hV gc e12 hb3 a4 l4 c0 cr l2 iZ;have a4:w3.cell? ⟨w.heap.size,0,none⟩=some (.pointer (some ⟨m,0,none⟩)):=(Ci.out.cell 0).trans rfl;have l4:=Ci.out.lt;have HLY:Hid (bG v1 k page=v1):=hZ (by unfold bG;rw[if_neg (by rw[wH.out];decide)]);have M5:Hid (Mo w3 N Z m r t u c (cs) (bG v1 k page)):=hZ (by rw[HLY.out];exact M3.out);have F5:=F3;have Jw:=Ci;have wI:=H73;obtain⟨w5,nJ⟩:∃w5,w5=w3:=⟨_,rfl⟩;rw[<-nJ] at M5 F5 Jw wI a4 l4⊢;clear nJ;have a70:w5.cell? ⟨w.heap.size+1,0,none⟩=some (.int .i64 2):=(wI.out.cell 0).trans rfl;have a71:w5.cell? ⟨w.heap.size+1,1,none⟩=some (.int .i64 X):=(wI.out.cell 1).trans rfl;have l7:=wI.out.lt;have qG:Hid ((bG v1 k page).ps=v.ps):=hZ (by rw[Bq];exact Yc.out.2);have Mx:Hid (Calls Tryz.prog 69 #[.pointer (some ⟨m,0,none⟩),.int .i64 k,.int .i64 page,.agg #[.int .i64 2,.int .i64 X]] w5 (Gv N Z m r t (eT (bG v1 k page) k page 2 X) w5)):=hZ (by
  refine xG M5.out ?_ ?_ k HK.out page 2 X ?_
  ·rw[iG.out];exact HS.out.b2
  ·rw[iG.out];exact HS.out.tl
  ·rw[qG.out,iG.out];exact HS.out.pt)
 go_wp2_with(go_at_call 69
             refine Mx.out.mono ?_;rintro e w6 ⟨rfl,⟨u6,c6,Da,rV⟩,sN⟩;have M6:=hZ rV;have F6:=hZ (F5.out.trans sN);have H46:=hZ (Jw.out.bM sN (by decide) (by decide) (by decide));have H76:=hZ (wI.out.bM sN (by decide) (by decide) (by decide));clear rV sN a4 a70 a71 l4 l7)
 refine⟨_,results_none rfl _ _ _,rfl,⟨u6,c6,Da,?_⟩,F6.out⟩;have e7:gI v k page 2 X=eT (bG v1 k page) k page 2 X:=by
  unfold gI;rw[<-iG.out];unfold gN;simp
 rw[e7];exact M6.out
theorem aKz {w:World} {N m r t u c:Nat} {Z:Nat->Prop} {cs:Array Value} {v:Vm} (h:Mo w N Z m r t u c cs v) {k:Nat} (hk:k<4) (page:Int) (X:Int) (hS:xD v k page 2 X) (hL:aG v.zs (v.ps k).root page=3):
 Calls Tryz.prog 80 #[.pointer (some ⟨m,0,none⟩),.int .i64 k,.int .i64 page,.agg #[.int .i64 2,.int .i64 X]] w (Gv N Z m r t (gI v k page 2 X) w):=by
 have hw0:=(aD w (.cells #[.pointer (some ⟨m,0,none⟩)] 51)).trans ((aD _ (.cells #[.int .i64 2,.int .i64 X] 147)).mono (by simp));have B4:=(Bx.new w 51 #[.pointer (some ⟨m,0,none⟩)]).below (aD _ (.cells #[.int .i64 2,.int .i64 X] 147));have B7:=Bx.new (w.alloc (.cells #[.pointer (some ⟨m,0,none⟩)] 51)) 147 #[.int .i64 2,.int .i64 X];rw[World.size_alloc] at B7;have h1:=h.below hw0;have lT:=hZ (aN.of h.hN hw0);obtain⟨w0,hw⟩:∃w0,w0=(w.alloc (.cells #[.pointer (some ⟨m,0,none⟩)] 51)).alloc (.cells #[.int .i64 2,.int .i64 X] 147):=⟨_,rfl⟩;rw[<-hw] at h1 B4 B7 lT;have HM:=hZ h1;have H4:=hZ B4;have H7:=hZ B7;have a4:w0.cell? ⟨w.heap.size,0,none⟩=some (.pointer (some ⟨m,0,none⟩)):=(B4.cell 0).trans rfl;have a70:w0.cell? ⟨w.heap.size+1,0,none⟩=some (.int .i64 2):=(B7.cell 0).trans rfl;have a71:w0.cell? ⟨w.heap.size+1,1,none⟩=some (.int .i64 X):=(B7.cell 1).trans rfl;have l4:=B4.lt;have l7:=B7.lt;have HK:=hZ hk;have HS:=hZ hS;have HL:=hZ hL;have hki:(k:Int)<4:=by omega
 have hk0:(0:Int)<=(k:Int):=by omega
 clear h h1 B4 B7 hw0 hk hS hL
 go_enter_defers Tryz.func80,Tryz.ntmps80
 go_wp2;rw[<-hw];clear hw;have zD:Hid (gN v 2 X true=v):=hZ (by unfold gN;simp);have M2:Hid (Mo w0 N Z m r t u c cs (gN v 2 X true)):=hZ (by rw[zD.out];exact HM.out);have F2:=lT;have Fy:=H4;have Qz:=H7;obtain⟨w2,hw2⟩:∃w2,w2=w0:=⟨_,rfl⟩;rw[<-hw2] at M2 F2 Fy Qz a4 l4⊢;clear hw2 a70 a71 l7 lT HM H4 H7;obtain⟨v1,hv1⟩:∃v1,v1=gN v 2 X true:=⟨_,rfl⟩;have hzs:v1.zs=v.zs/\v1.ps=v.ps:=by rw[hv1];exact Jf _ _ _ _
 rw[<-hv1] at M2;have wH:Hid (aG v1.zs (v1.ps k).root page=3):=hZ (by rw[hzs.1,hzs.2];exact HL.out);have iZ:=hZ (λW (hW:Below w2.heap.size w2 W)=>wY (some ⟨r,0,none⟩) 4096 4096 v1.zs (v1.ps k).root page W _ (M2.out.below hW).zY (nR _) (by rw[hzs.1];exact HS.out.b1) (by decide));rw[wH.out] at iZ;have c0:=M2.out.uE;have cr:w2.cell? ⟨m,69+k*11+1,none⟩=some (.int .i64 (v1.ps k).root):=M2.out.rE HK.out;have l2:=M2.out.size;have iG:=hZ hv1;have Yc:=hZ hzs;clear hv1 hzs;generalize aK v1.zs (v1.ps k).root page=LV at*;have gc:∀(d:Nat) (os:Array Obj) (b o:Nat),b<w2.heap.size->(grow (redrawn w2 d) os).cell? ⟨b,o,none⟩=w2.cell? ⟨b,o,none⟩:=λd os b o h=>(below_regrown _ d os).cell (p:=⟨b,o,none⟩) h;refine fK [Sp.call 12 (.tuple #[.int .i64 LV,.int .i64 3])] (by kernel_rfl) (by kernel_rfl) ?_;intro V hV;have e12:V 12=.tuple #[.int .i64 LV,.int .i64 3]:=hV 12
 (refine rq rfl rfl ?_;go_big_quiet_step(fail);refine wpQuiet_nil ?_)
 refine rn ⟨m,0,none⟩ (by kernel_rfl) rfl rfl ?_;go_big_quiet_step(fail);refine wpQuiet_nil ?_;iterate 4 (refine rq rfl rfl ?_;go_big_quiet_step(fail);refine wpQuiet_nil ?_)
 refine rn ⟨m,0,none⟩ (by kernel_rfl) rfl rfl ?_;go_big_quiet_step(fail);refine wpQuiet_nil ?_;iterate 5 (refine rq rfl rfl ?_;go_big_quiet_step(fail);refine wpQuiet_nil ?_)
 refine mQ (Sp.call 12 _) (by kernel_rfl) rfl (λw' hb hf=> ?_) ?_
 ·refine iB (f:=81) (args:= #[.slice (some ⟨r,0,none⟩) 4096 4096,.int .i64 (v1.ps k).root,.int .i64 page]) ?_ (iZ.out w' hb)
  go_simp
 go_big_quiet_step(fail);refine wpQuiet_nil ?_;simp only[e12];iterate 5 (refine rq rfl rfl ?_;go_big_quiet_step(fail);refine wpQuiet_nil ?_)
 refine rend ?_;intro w3 hb3 hf;have M3:=hZ (M2.out.below hb3);have F3:=hZ (F2.out.trans (aN.of M2.out.hN hb3));have Ci:=hZ (Fy.out.below hb3);have H73:=hZ (Qz.out.below hb3);clear hf hV gc e12 hb3 a4 l4 c0 cr l2 iZ;have a4:w3.cell? ⟨w.heap.size,0,none⟩=some (.pointer (some ⟨m,0,none⟩)):=(Ci.out.cell 0).trans rfl;have l4:=Ci.out.lt;obtain⟨f2,Su,hTB,hHE⟩:∃f2,vE v1 f2/\Bytes (aQ v1).zs/\wM (aQ v1).zs (v1.ps k).root page f2=0:=by
  rcases HS.out.lf with h0|⟨_,f2,h1,h2,h3⟩
  ·have:=HL.out;omega
  ·rw[Yc.out.2,iG.out];exact⟨f2,h1,h2,h3⟩
 have HLY:Hid (bG v1 k page= { aQ v1 with zs:=mU (aQ v1).zs (v1.ps k).root page f2 }):=hZ (by unfold bG;rw[if_pos wH.out,Su.n]);have oN:=hZ Su;have HHE:=hZ hHE;have hC0:CM N Z m r t v1.ps w3 { w3 with drawn:=w3.drawn+1 } :=CM.below (Mr.cm ⟨u,c,_,M3.out⟩) ⟨rfl,rfl,rfl,nR _,λ_ _=>rfl⟩;have hI0:Mr { w3 with drawn:=w3.drawn+1 } N Z m r t v1:=Mr.below ⟨u,c,_,M3.out⟩ ⟨rfl,rfl,rfl,nR _,λ_ _=>rfl⟩;have Jt:Hid (∀W,CM N Z m r t v1.ps w3 W->W.cell? ⟨w.heap.size,0,none⟩=some (.pointer (some ⟨m,0,none⟩))/\w.heap.size<W.heap.size):=hZ (λW hW=>by
  have:=Ci.out.bM hW.2 (by decide) (by decide) (by decide);exact⟨(this.cell 0).trans rfl,this.lt⟩)
 clear Su hTB hHE a4 l4;go_wp2;refine J2 14 (MD N (CM N Z m r t v1.ps w3) 13) (CM N Z m r t v1.ps w3) [([13],λw=>Mr w N Z m r t v1)] [fG.yI (C:=CM N Z m r t v1.ps w3) (K:=13) (N:=N) (Z:=Z) (m:=m) (r:=r) (t:=t) (.int .i64 f2) (aQ v1)] (by kernel_rfl) (D7 13 v1) hC0 (λp hp=>by rcases List.mem_singleton.1 hp with rfl;exact hI0) (by kernel_rfl) (by kernel_rfl) (by kernel_rfl) ?_;intro V hV;have e13:V 13=.int .i64 f2:=hV 13;simp only[List.take_succ_cons,List.take_zero,List.drop_succ_cons,List.drop_zero];refine df (noW w3) (.pointer (some ⟨m,0,none⟩)) (by kernel_rfl) rfl (λw' hC hi hf=>by obtain⟨q1,q2⟩:=Jt.out _ hC;go_simp) ?_;go_big_quiet_step(fail);refine wpQuiet_nil ?_;refine dn (noW w3) ⟨m,0,none⟩ (by kernel_rfl) rfl rfl ?_;go_big_quiet_step(fail);refine wpQuiet_nil ?_;refine dq (noW w3) (λw h=>h.noW) rfl rfl ?_;go_big_quiet_step(fail);refine wpQuiet_nil ?_;refine df (noW w3) (.slice (some ⟨r,0,none⟩) 4096 4096) (by kernel_rfl) rfl (λw' hC hi hf=>by obtain⟨q1,q2⟩:=hC.uE;go_simp) ?_;go_big_quiet_step(fail);refine wpQuiet_nil ?_;refine df (noW w3) (.pointer (some ⟨m,0,none⟩)) (by kernel_rfl) rfl (λw' hC hi hf=>by obtain⟨q1,q2⟩:=Jt.out _ hC;go_simp) ?_;go_big_quiet_step(fail);refine wpQuiet_nil ?_;refine dq (noW w3) (λw h=>h.noW) rfl rfl ?_;go_big_quiet_step(fail);refine wpQuiet_nil ?_;refine dn (noW w3) ⟨m,0,none⟩ (by kernel_rfl) rfl rfl ?_;go_big_quiet_step(fail);refine wpQuiet_nil ?_;refine dq (noW w3) (λw h=>h.noW) rfl rfl ?_;go_big_quiet_step(fail);refine wpQuiet_nil ?_;refine dq (noW w3) (λw h=>h.noW) rfl rfl ?_;go_big_quiet_step(fail);refine wpQuiet_nil ?_;refine dq (noW w3) (λw h=>h.noW) rfl rfl ?_;go_big_quiet_step(fail);refine wpQuiet_nil ?_;refine df (noW w3) (.int .i64 (v1.ps k).root) (by kernel_rfl) rfl (λw' hC hi hf=>by obtain⟨q1,q2⟩:=hC.rE HK.out;go_simp) ?_;go_big_quiet_step(fail);refine wpQuiet_nil ?_;refine dq (noW w3) (λw h=>h.noW) rfl rfl ?_;go_big_quiet_step(fail);refine wpQuiet_nil ?_;refine df (noW w3) (.pointer (some ⟨m,0,none⟩)) (by kernel_rfl) rfl (λw' hC hi hf=>by obtain⟨q1,q2⟩:=Jt.out _ hC;go_simp) ?_;go_big_quiet_step(fail);refine wpQuiet_nil ?_;refine P8 (noW w3) (fG.yI (.int .i64 f2) (aQ v1)) (by kernel_rfl) rfl (λw' hC hi hf=> ?_) ?_
 ·have hm:Mr w' N Z m r t v1:=hi _ (List.Mem.head _) (by kernel_rfl)
  obtain⟨u',c',cs',hm⟩:=hm;exact rG (f:=36) (args:= #[.pointer (some ⟨m,0,none⟩)]) hC (Bi v1) (by go_simp) (Dm hm oN.out)
 go_big_quiet_step(fail);refine wpQuiet_nil ?_;simp only[e13];refine Zl ?_;intro w4 Je hi hf;have qD:Mr w4 N Z m r t (aQ v1):=hf _ (List.Mem.head _) rfl;have Vk:=hZ Je;have HM4:=hZ qD;clear hi hf hV e13 Je qD hC0 hI0;obtain⟨u4,c4,Fe,Yb⟩:=HM4.out;have F4:=hZ (F3.out.trans Vk.out.2);have H44:=hZ (Ci.out.bM Vk.out.2 (by decide) (by decide) (by decide));have H74:=hZ (H73.out.bM Vk.out.2 (by decide) (by decide) (by decide));have M4:=hZ Yb;have HHG:=hZ (aCE (some ⟨r,0,none⟩) 4096 4096 (aQ v1).zs (v1.ps k).root page f2 w4 N Yb.iX Yb.hN (by decide));rw[HHE.out] at HHG;clear Yb;go_wp2_with(first
  |(go_at_call 67;refine(mR _).mono ?_;rintro e w' ⟨rfl,hw⟩;rw[hw];clear hw)
  |(go_at_call 125
    refine HHG.out.mono ?_;rintro e w5 ⟨rfl,ho,hkk⟩;have M5:Hid (Mo w5 N Z m r t u4 c4 Fe (bG v1 k page)):=hZ (by rw[HLY.out];exact M4.out.aE7 hkk ho);have F5:=hZ (F4.out.trans (M4.out.G5 (zs':=(bG v1 k page).zs) hkk));have Jw:=hZ (H44.out.bM (M4.out.G5 (zs':=(bG v1 k page).zs) hkk) (by decide) (by decide) (by decide));have wI:=hZ (H74.out.bM (M4.out.G5 (zs':=(bG v1 k page).zs) hkk) (by decide) (by decide) (by decide));have a4:w5.cell? ⟨w.heap.size,0,none⟩=some (.pointer (some ⟨m,0,none⟩)):=(Jw.out.cell 0).trans rfl;have l4:=Jw.out.lt;have a70:w5.cell? ⟨w.heap.size+1,0,none⟩=some (.int .i64 2):=(wI.out.cell 0).trans rfl;have a71:w5.cell? ⟨w.heap.size+1,1,none⟩=some (.int .i64 X):=(wI.out.cell 1).trans rfl;have l7:=wI.out.lt;clear ho hkk))
 have qG:Hid ((bG v1 k page).ps=v.ps):=hZ (by rw[Bq];exact Yc.out.2);have Mx:Hid (Calls Tryz.prog 69 #[.pointer (some ⟨m,0,none⟩),.int .i64 k,.int .i64 page,.agg #[.int .i64 2,.int .i64 X]] w5 (Gv N Z m r t (eT (bG v1 k page) k page 2 X) w5)):=hZ (by
  refine xG M5.out ?_ ?_ k HK.out page 2 X ?_
  ·rw[iG.out];exact HS.out.b2
  ·rw[iG.out];exact HS.out.tl
  ·rw[qG.out,iG.out];exact HS.out.pt)
 go_wp2_with(go_at_call 69
             refine Mx.out.mono ?_;rintro e w6 ⟨rfl,⟨u6,c6,Da,rV⟩,sN⟩;have M6:=hZ rV;have F6:=hZ (F5.out.trans sN);have H46:=hZ (Jw.out.bM sN (by decide) (by decide) (by decide));have H76:=hZ (wI.out.bM sN (by decide) (by decide) (by decide));clear rV sN a4 a70 a71 l4 l7)
 refine⟨_,results_none rfl _ _ _,rfl,⟨u6,c6,Da,?_⟩,F6.out⟩;have e7:gI v k page 2 X=eT (bG v1 k page) k page 2 X:=by
  unfold gI;rw[<-iG.out];unfold gN;simp
 rw[e7];exact M6.out
def Wo (t:List iO) (k:Nat) (page:Int):Value:=match iF t k page with
 |some z=>.tuple #[.agg #[.int .i64 z.1,.int .i64 z.2],.bool true]
 |none=>.tuple #[.agg #[.int .i64 0,.int .i64 0],.bool false]
theorem aHc {x:iO} {l:List iO} {k:Nat} {page:Int} (h1:x.p=k) (h2:x.g=page):iF (x::l) k page=some (x.k,x.n):=by
 unfold iF;simp[h1,h2]
theorem aCf {x:iO} {l:List iO} {k:Nat} {page:Int} (h:x.p≠k\/x.g≠page):iF (x::l) k page=iF l k page:=by
 unfold iF;rw[List.find?_cons_of_neg];simp only[Bool.and_eq_true,beq_iff_eq];rcases h with h|h
 ·exact λe=>h e.1
 ·exact λe=>h e.2
theorem aGi (t:List iO) (b o:Nat) (k:Nat) (page:Int) (w:World) (ht:Tl w b o t) (hn:t.length<=1000):
 Calls Tryz.prog 133 #[.pointer (some ⟨b,o,none⟩),.int .i64 k,.int .i64 page] w λe w'=>e=.returned (Wo t k page)/\Below w.heap.size w w':=by
 obtain⟨A,c,hc,hf,hr⟩:=ht;have hb:b<w.heap.size:=lt_of_cell hc;have HR:=hZ hr;have HN:=hZ hn;have hw0:=aD w (.cells #[.int .i64 0,.int .i64 0] 147);have HB0:=hZ hw0;have HX0:=hZ (Bx.new w 147 #[.int .i64 0,.int .i64 0]);obtain⟨nn,hnn⟩:∃nn,nn=t.length:=⟨_,rfl⟩;rw[<-hnn] at hc HR hn;have HNN:=hZ hnn;clear hr hw0 hnn;go_enter Tryz.func133,Tryz.ntmps133;go_wp2;obtain⟨w0,hw0⟩:∃w0,w0=w.alloc (.cells #[.int .i64 0,.int .i64 0] 147):=⟨_,rfl⟩;rw[<-hw0] at HB0 HX0⊢;clear hw0;go_loopw [15] (λi wr=>∃j:Nat,j<=nn/\i=.int .i64 j/\Hid (iF (t.drop j) k page=iF t k page)/\Hid (Below w.heap.size w wr)/\Hid (Bx wr w.heap.size 147 #[.int .i64 0,.int .i64 0])) (λi _=>nn - (intOf i).toNat)
 case atStart=>exact⟨0,by omega,rfl,hZ rfl,HB0,HX0⟩
 case round=>
  obtain⟨j,hj,rfl,HL,HB,HX⟩:=hrel;have hlx:=HX.out.lt;by_cases hlt:j<nn
  ·obtain⟨x,hx⟩:∃x,t[j]? =some x:=⟨t[j]'(by rw[<-HNN.out];exact hlt),List.getElem?_eq_getElem _⟩
   have hd:t.drop j=x::t.drop (j+1):=by
    have hl:j<t.length:=by rw[<-HNN.out];exact hlt
    rw[List.drop_eq_getElem_cons hl];rw[List.getElem?_eq_getElem hl] at hx;injection hx with hx;rw[hx]
   have HD:=hZ hd;obtain⟨b1,off,e1,hb1,hc1⟩:=(HR.out.below HB.out).2.2 (by omega);have hA:A=some ⟨b1,off,none⟩:=e1;subst hA;have q:=hc1 j x hx;have c0:wr.cell? ⟨b1,off+j*4,none⟩=some (.int .i64 x.p):=q 0 _ rfl;have c1:wr.cell? ⟨b1,off+j*4+1,none⟩=some (.int .i64 x.g):=q 1 _ rfl;have c2:wr.cell? ⟨b1,off+j*4+2,none⟩=some (.int .i64 x.k):=q 2 _ rfl;have c3:wr.cell? ⟨b1,off+j*4+3,none⟩=some (.int .i64 x.n):=q 3 _ rfl;have hb1':b1<wr.heap.size:=lt_of_cell c0;have x0:wr.cell? ⟨w.heap.size,0,none⟩=some (.int .i64 0):=(HX.out.cell 0).trans rfl;have x1:wr.cell? ⟨w.heap.size,1,none⟩=some (.int .i64 0):=(HX.out.cell 1).trans rfl;have f0:=HX.out.free 0;have f1:=HX.out.free 1;have tT:=hZ (HB.out.trans ((aD wr (.cells #[.int .i64 x.p,.int .i64 x.g,.int .i64 x.k,.int .i64 x.n] 210)).mono HB.out.size));have Yd:=hZ (HX.out.below (aD wr (.cells #[.int .i64 x.p,.int .i64 x.g,.int .i64 x.k,.int .i64 x.n] 210)));have hne:¬w.heap.size=wr.heap.size:=by omega
   clear q hc1 e1 hx hd;by_cases h1:x.p=k
   ·by_cases h2:x.g=page
    ·have HY:Hid (iF t k page=some (x.k,x.n)):=hZ (by rw[<-HL.out,HD.out];exact aHc h1 h2)
     rw[h1] at c0 tT;rw[h2] at c1 tT;clear h1 h2;go_wp2;refine bodyPost_ret (v:=.tuple #[.agg #[.int .i64 x.k,.int .i64 x.n],.bool true]) (by simp[results,Tryz.results133,go_sem,c0,c1,c2,c3,x0,x1,hlx,hb1',hne]) rfl ⟨by unfold Wo;rw[HY.out],?_⟩;exact((HB.out.setCell (p:=⟨w.heap.size,0,none⟩) (nR _) _).setCell (p:=⟨w.heap.size,1,none⟩) (nR _) _).alloc (by simp[World.setCell];omega) _
    ·have HY:Hid (iF (t.drop (j+1)) k page=iF t k page):=hZ (by rw[<-HL.out,HD.out];exact(aCf (.inr h2)).symm)
     rw[h1] at c0 tT Yd;clear h1;go_wp2;go_roundw
     case rel=>exact⟨j+1,by omega,by go_num,HY,tT,Yd⟩
     case measure=>simp[intOf];omega
   ·have HY:Hid (iF (t.drop (j+1)) k page=iF t k page):=hZ (by rw[<-HL.out,HD.out];exact(aCf (.inl h1)).symm)
    go_wp2;go_roundw
    case rel=>exact⟨j+1,by omega,by go_num,HY,tT,Yd⟩
    case measure=>simp[intOf];omega
  ·have hjn:j=nn:=by omega
   have HY:Hid (iF t k page=none):=hZ (by rw[<-HL.out,hjn,HNN.out,List.drop_length];rfl);have x0:wr.cell? ⟨w.heap.size,0,none⟩=some (.int .i64 0):=(HX.out.cell 0).trans rfl;have x1:wr.cell? ⟨w.heap.size,1,none⟩=some (.int .i64 0):=(HX.out.cell 1).trans rfl;have f0:=HX.out.free 0;have f1:=HX.out.free 1;subst hjn;go_wp2;refine bodyPost_ret (v:=.tuple #[.agg #[.int .i64 0,.int .i64 0],.bool false]) (by simp[results,Tryz.results133,go_sem,x0,x1,hlx]) rfl ⟨by unfold Wo;rw[HY.out],?_⟩;exact(HB.out.setCell (nR _) _).setCell (nR _) _
section
variable {Q:Nat->Prop}
theorem Er {k:IntKind} {T:TypeId} {w:World} {base base' n c:Nat} {A:Option Addr} {zs:List Int} (h:Own k T w base A n c zs) (hb:base'<=base):Own k T w base' A n c zs:=
 ⟨h.1,h.2.1,h.2.2.1,λhn=>by
   obtain⟨g,cur,e,hg,hh,hc⟩:=h.2.2.2 hn;exact⟨g,cur,e,Nat.le_trans hb hg,hh,hc⟩⟩
def TGo (b t:List Int) (w:World) (e:Ending) (w':World):Prop:=∃A1 n1 c1 A2 n2 c2,e=.returned (.tuple #[.slice A1 n1 c1,.slice A2 n2 c2,.int .i64 0])/\Own .u8 5 w' w.heap.size A1 n1 c1 b/\Own .i64 3 w' w.heap.size A2 n2 c2 t/\Below w.heap.size w w'
theorem aGg (A:Option Addr) (n c:Nat) (xs:List lG) (ss:List gT) (k:Int) (w:World) (hz:Rw fS 3 w w.heap.size A n xs) (hs:pI Q w w.heap.size xs ss) (s:gT) (hl:uQ ss k s):
 Calls Tryz.prog 134 #[.slice A n c,.int .i64 k] w (TGo s.b s.t w):=by
 have hcall:=Oa A n c xs ss w _ _ hz hs k s hl;obtain⟨h0,h1,h2⟩:=hl;obtain⟨i,rfl⟩:=Int.eq_ofNat_of_zero_le h0;rw[Int.toNat_natCast] at h1;have hi:i<n:=by have:=(List.getElem?_eq_some_iff.1 h1).1;rw[<-hz.1,hs.1];exact this
 obtain⟨b,off,rfl,hb⟩:=hz.open (by omega);obtain⟨x,s',hx,hs',hr⟩:=hs.get (i:=i) (by rw[hz.1];exact hi);rw[h1] at hs';cases hs';have c1:w.cell? ⟨b,off+i*3+1,none⟩=some (.slice x.bA x.bn x.bc):=hz.at_ kK hx 1 _ rfl;have c2:w.cell? ⟨b,off+i*3+2,none⟩=some (.slice x.tA x.tn x.tc):=hz.at_ kK hx 2 _ rfl;have hin:(i:Int)<(n:Int):=by omega
 have HR:=hZ hr;clear h1 hx hr hz hs h0 h2;have gc:∀(e:Nat) (os:Array Obj) (b o:Nat),b<w.heap.size->(grow (redrawn w e) os).cell? ⟨b,o,none⟩=w.cell? ⟨b,o,none⟩:=λe os b o h=>(below_regrown _ e os).cell (p:=⟨b,o,none⟩) h;go_enter Tryz.func134,Tryz.ntmps134;go_wp2_with fail
 refine hcall.mono ?_;clear hcall;rintro e w1 ⟨rfl,rfl⟩;go_wp2_with fail
 refine Iy [Sp.gen 5 (λu=>∃A c,u=.slice A x.bn c) (λu W=>∀A c,u=.slice A x.bn c->Own .u8 5 W w.heap.size A x.bn c s.b) ⟨_,none,0,rfl⟩ (λu W W' h hb A c e=>(h A c e).below hb (nR _)),Sp.gen 11 (λu=>∃A c,u=.slice A x.tn c) (λu W=>∀A c,u=.slice A x.tn c->Own .i64 3 W w.heap.size A x.tn c s.t) ⟨_,none,0,rfl⟩ (λu W W' h hb A c e=>(h A c e).below hb (nR _))] (by kernel_rfl) (by kernel_rfl) ?_;intro V hV;obtain⟨A5,c5,e5⟩:∃A c,V 5=.slice A x.bn c:=hV 5;obtain⟨A11,c11,e11⟩:∃A c,V 11=.slice A x.tn c:=hV 11;repeat(refine rQ rfl rfl ?_;go_big_quiet_step(fail);refine wpQuiet_nil ?_)
 refine qK (Sp.gen 5 _ _ _ _) (by kernel_rfl) rfl (λw' hb hf=> ?_) ?_
 ·refine bY (f:=26) (args:= #[.slice x.bA x.bn x.bc]) ?_ ((aAR x.bA x.bn x.bc s.b w' _ (HR.out.b.on hb (nR _)) (nR _) (by have:=HR.out.bn;omega)).mono ?_)
  ·go_simp
  ·rintro e w'' ⟨A',c',rfl,ho,hb'⟩
   exact⟨_,rfl,hb',⟨_,_,rfl⟩,λA2 c2 e2=>by cases e2;exact Er ho hb.size⟩
 go_big_quiet_step(fail);refine wpQuiet_nil ?_;repeat(refine rQ rfl rfl ?_;go_big_quiet_step(fail);refine wpQuiet_nil ?_)
 refine qK (Sp.gen 11 _ _ _ _) (by kernel_rfl) rfl (λw' hb hf=> ?_) ?_
 ·refine bY (f:=27) (args:= #[.slice x.tA x.tn x.tc]) ?_ ((Xq x.tA x.tn x.tc s.t w' _ (HR.out.t.on hb (nR _)) (nR _) (by have:=HR.out.tn;omega)).mono ?_)
  ·go_simp
  ·rintro e w'' ⟨A',c',rfl,ho,hb'⟩
   exact⟨_,rfl,hb',⟨_,_,rfl⟩,λA2 c2 e2=>by cases e2;exact Er ho hb.size⟩
 go_big_quiet_step(fail);refine wpQuiet_nil ?_;repeat(refine rQ rfl rfl ?_;go_big_quiet_step(fail);refine wpQuiet_nil ?_)
 intro w3 hb3 hf;have r11:Own .i64 3 w3 w.heap.size A11 x.tn c11 s.t:=hf _ (List.Mem.head _) A11 c11 e11;have r5:Own .u8 5 w3 w.heap.size A5 x.bn c5 s.b:=hf _ (List.Mem.tail _ (List.Mem.head _)) A5 c5 e5;have R11:=hZ r11;have R5:=hZ r5;have HB3:=hZ hb3;clear hf r11 r5 gc c1 c2 hb3;rw[e5,e11];go_wp2
 go_ret3
 exact⟨_,_,_,_,_,_,rfl,R5.out,R11.out,HB3.out⟩
end
end Go.Proofs.YtoogfmbojlpjaaaGreat
