/- Lemmas. -/
import Derived.Test.YtoogfmbojlpjaaaGreatQ40
import Derived.Deep.DeepCutAuto
import Derived.Test.YtoogfmbojlpjaaaGreatQ28
import Derived.Test.YtoogfmbojlpjaaaGreatQA
set_option maxRecDepth 100000
set_option maxHeartbeats 32000000
set_option linter.unusedVariables false
set_option linter.unusedSimpArgs false
namespace Go.Proofs.YtoogfmbojlpjaaaGreat
open Go.ChangeShapes Go.WideShapes Go.ChangeAt Go.RowKit Go.Joins Go.Sort
def uX (v:Vm) (x:Int×Int):Vm:=bO (if x.1=2 then iM (dJ v) (takeN v) ((dJ v).dv.getD x.2.toNat default).b ((dJ v).dv.getD x.2.toNat default).t else iM (dJ v) (takeN v) [] []) x.1 x.2
structure aJ7 (v:Vm) (k:Nat) (page:Int) (x:Int×Int) (f:Nat):Prop where
 tk:vE v f
 ts:Bytes (dJ v).ts
 x01:x.1=0\/(x.1=2/\∃s,uQ (dJ v).dv x.2 s/\s.b.length=64/\s.t.length=4/\aFV s.t)
 st:xD (uX v x) k page 1 f
def yT (v:Vm) (n:Int):Vm:=iM (mH v n) (takeN (sQ v n)) (tL (mH v n).zs n) (jS (mH v n).ts n)
structure aKb (v:Vm) (k:Nat) (page:Int) (n f:Nat):Prop where
 tk:vE (sQ v n) f
 ne:f≠n
 tb:Bytes (mH v n).ts
 rf:kR (mH v n).rf
 r0:(mH v n).rf n≠0
 st:xD (bO (yT v n) 1 n) k page 1 f
structure Zu (v:Vm) (k:Nat) (page:Int) (W:Bool):Prop where
 zb:Bytes v.zs
 tl:v.tl.length<=1000
 ge:iF v.tl k page=none->lI v.zs (v.ps k).root page=0
 ft:(Cm v k page).1≠1->∃f,aJ7 v k page (Cm v k page) f
 n1:∃n:Nat,n<64/\(lL v k page).2=n
 cp:∀n:Nat,(lL v k page).2=n->W=true->1<(lL v k page).1.rf n->∃f,aKb (lL v k page).1 k page n f
 n2:∃n:Nat,n<64/\yL v k page W=n
 tl2:(sO (lL v k page).1 k page (lL v k page).2 W).1.tl.length<=1000
theorem aIN (t:List iO) (k:Nat) (page:Int):Wo t k page=.tuple #[.agg #[.int .i64 ((iF t k page).getD (0,0)).1,.int .i64 ((iF t k page).getD (0,0)).2],.bool (iF t k page).isSome]:=by
 unfold Wo;cases iF t k page<;>rfl
theorem Gh {w:World} {N m r t u c:Nat} {Z:Nat->Prop} {cs:Array Value} {v:Vm} (h:Mo w N Z m r t u c cs v) {k:Nat} (hk:k<4) (page:Int) {f:Nat} (hf:f<64) (hS:xD v k page 1 f):
 Calls Tryz.prog 80 #[.pointer (some ⟨m,0,none⟩),.int .i64 k,.int .i64 page,.agg #[.int .i64 1,.int .i64 f]] w (Gv N Z m r t (gI v k page 1 f) w):=by
 rcases hS.lf with h0|⟨h3,_⟩
 ·exact aKC h hk page hf hS h0
 ·exact aKB h hk page hf hS h3
theorem Bx.entry {w:World} {g:Nat} {a b:Value} (h:Bx w g 147 #[a,b]) (x y:Value):Bx ((w.setCell ⟨g,0,none⟩ x).setCell ⟨g,1,none⟩ y) g 147 #[x,y]:=by
 have:=(h.set 0 x).set 1 y;simpa using this
theorem Wj {k:IntKind} {T:TypeId} {w:World} {base n c:Nat} {A:Option Addr} {zs:List Int} (h:Own k T w base A n c zs) (hn:0<n):∃g,A=some ⟨g,0,none⟩/\base<=g/\∀i,i<n->w.cell? ⟨g,i,none⟩=some (.int k (zs.getD i 0)):=by
 obtain⟨g,cur,e,hg,hh,hc⟩:=h.2.2.2 hn;exact⟨g,e,hg,λi hi=>by rw[dW hh];exact hc i hi⟩
theorem aKS {w:World} {base c r p:Nat} {A:Option Addr} {b:List Int} {vs:List Value} (h:Own .u8 5 w base A 64 c b) (hr:r<base):Src (w.setCells r p vs) A 64 b:=by
 obtain⟨g,rfl,hg,hc⟩:=Wj h (by decide);refine .inr ⟨rfl,h.1,_,rfl,λj x hx=> ?_⟩;rw[List.getElem?_map] at hx;obtain⟨z,hz,rfl⟩:=Option.map_eq_some_iff.1 hx;have hj:j<64:=by rw[<-h.1];exact(List.getElem?_eq_some_iff.1 hz).1
 rw[Addr.add_mid,Nat.zero_add,World.cell?_setCells_out r vs p w ⟨g,j,none⟩ (λe=>absurd e (by show¬g=r;omega)),hc j hj];simp[List.getD,hz]
theorem aGG {w:World} {N m r t u c:Nat} {Z:Nat->Prop} {cs:Array Value} {v:Vm} (h:Mo w N Z m r t u c cs v) {f g:Nat} (hf:f<64) (hg:g<64) (hne:g≠f) {vs:List Value} (hv:vs.length=64):Src (w.setCells r ((g:Int)*64).toNat vs) (some ⟨r,((f:Int)*64).toNat,none⟩) 64 (tL v.zs f):=by
 have hrow:=h.aAh (f:=f) (by omega) (by omega);obtain⟨b,off,e,_,hc⟩:=hrow.2.2 (by decide);cases e;refine .inr ⟨rfl,Aj _ _,_,rfl,λj x hx=> ?_⟩;rw[List.getElem?_map] at hx;obtain⟨z,hz,rfl⟩:=Option.map_eq_some_iff.1 hx;have hj:j<64:=by rw[<-Aj v.zs f];exact(List.getElem?_eq_some_iff.1 hz).1
 rw[Addr.add_mid,World.cell?_setCells_out r vs _ w ⟨r,((f:Int)*64).toNat+j,none⟩ (λ_ _=>by rw[hv];show((f:Int)*64).toNat+j<_\/_<=((f:Int)*64).toNat+j;omega),hc j hj];simp[List.getD,hz]
theorem Mo.kept {w w':World} {N m r t u c:Nat} {Z:Nat->Prop} {cs:Array Value} {v:Vm} {tl:List iO} {e:Ending} (h:Mo w N Z m r t u c cs v) (hp:aEN m 68 w tl e w'):∃cs',Mo w' N Z m r t u c cs' { v with tl:=tl } :=by
 obtain⟨_,⟨A,c',h1,h2,h3⟩,⟨g,hg,off,cc,n,h4⟩,h5⟩:=hp;rw[h1] at h4;cases h4;exact h.vS h5 h1 h3 λb o s e _=>by cases e;exact hg
theorem Mo.aKF {w:World} {N m r t u c:Nat} {Z:Nat->Prop} {cs:Array Value} {v:Vm} (h:Mo w N Z m r t u c cs v) {f:Nat} (hf:f<64):∃b,w.cell? ⟨u,f,none⟩=some (.bool b)/\w.frozen? ⟨u,f,none⟩=false/\u<w.heap.size:=by
 obtain⟨g',cur',e,_,hh,hc⟩:=h.us.2.2.2 (by decide);injection e with e;injection e with e;subst e;have Wx:v.us.length=64:=h.us.1;have q:=hc f (v.us[f]'(by rw[Wx];exact hf)) (List.getElem?_eq_getElem _) 0 _ rfl;refine⟨v.us[f]'(by rw[Wx];exact hf),?_,gQ hh f,kM hh⟩;rw[dW hh];simpa using q
theorem aN.loc {N g:Nat} {w w':World} (h:aN N w w') (hN:N<=w.heap.size) (hg:w.heap.size<=g) (i:Nat) (x:Value):aN N w (w'.setCell ⟨g,i,none⟩ x):=
 ⟨h.1.setCell (p:=⟨g,i,none⟩) (Nat.le_trans hN hg) x,λb T cs h1 h2 h3 hx=>(h.2 b T cs h1 h2 h3 hx).other (by have:=hx.lt;omega) i x⟩
theorem Mo.loc {w:World} {N m r t u c g:Nat} {Z:Nat->Prop} {cs z:Array Value} {v:Vm} (h:Mo w N Z m r t u c cs v) (hz:Z g) (hX:Bx w g 147 z) (i:Nat) (x:Value):Mo (w.setCell ⟨g,i,none⟩ x) N Z m r t u c cs v:=
 h.other hz hX (by decide) (by decide) (by decide) (by decide) (λb hb=>gW w g i x b hb) (by simp[World.setCell])
theorem Oy {w w3:World} {N m r t u c g:Nat} {Z:Nat->Prop} {cs:Array Value} {v:Vm} {a b:Value} (hM:Mo w3 N Z m r t u c cs v) (hz:Z g) (hX:Bx w3 g 147 #[a,b]) (hF:aN N w w3) (hN:N<=w.heap.size) (hg:w.heap.size<=g) (x y:Value):
 Mo ((w3.setCell ⟨g,0,none⟩ x).setCell ⟨g,1,none⟩ y) N Z m r t u c cs v/\Bx ((w3.setCell ⟨g,0,none⟩ x).setCell ⟨g,1,none⟩ y) g 147 #[x,y]/\aN N w ((w3.setCell ⟨g,0,none⟩ x).setCell ⟨g,1,none⟩ y):=
 ⟨(hM.loc hz hX 0 x).loc hz (hX.set 0 x) 1 y,hX.entry x y,(hF.loc hN hg 0 x).loc hN hg 1 y⟩
theorem aFk {w w3:World} {N m r t u c g:Nat} {Z:Nat->Prop} {cs:Array Value} {v:Vm} {a b:Value} (hM:Mo w3 N Z m r t u c cs v) (hz:Z g) (hX:Bx w3 g 147 #[a,b]) (hF:aN N w w3) (hN:N<=w.heap.size) (hg:w.heap.size<=g) (y:Value):
 Mo (w3.setCell ⟨g,1,none⟩ y) N Z m r t u c cs v/\Bx (w3.setCell ⟨g,1,none⟩ y) g 147 #[a,y]/\aN N w (w3.setCell ⟨g,1,none⟩ y):=
 ⟨hM.loc hz hX 1 y,by have:=hX.set 1 y;simpa using this,hF.loc hN hg 1 y⟩
theorem Z4 {w:World} {N m r t u c:Nat} {Z:Nat->Prop} {cs:Array Value} {v:Vm} (h:Mo w N Z m r t u c cs v) {k:Nat} (hk:k<4) (page:Int) (W:Bool) (hH:Zu v k page W):
 Calls Tryz.prog 86 #[.pointer (some ⟨m,0,none⟩),.int .i64 k,.int .i64 page,.bool W] w (Gi N Z m r t (yL v k page W) (jW v k page W) w):=by
 have Jr:=hZ (aGi v.tl m 68 k page w h.tl hH.tl);rw[aIN] at Jr;obtain⟨K,X,uW⟩:∃K X,Cm v k page=(K,X):=⟨_,_,rfl⟩;have xW:=hZ uW
 have uJ:Hid ((iF v.tl k page).isSome=true->((iF v.tl k page).getD (0,0)).1=K/\((iF v.tl k page).getD (0,0)).2=X):=hZ (λh=>by
  unfold Cm at uW;cases hl:iF v.tl k page with
  |none=>rw[hl] at h;cases h
  |some z=>rw[hl] at uW;simp only[Option.getD_some] at uW;simp[uW])
 have Yj:Hid ((iF v.tl k page).isSome=false->lI v.zs (v.ps k).root page=0/\gF v k page=(K,X)):=hZ (λh=>by
  unfold Cm at uW;cases hl:iF v.tl k page with
  |some z=>rw[hl] at h;cases h
  |none=>rw[hl] at uW;exact⟨hH.ge hl,by simpa using uW⟩)
 have HM:=hZ h;have HH:=hZ hH;have HK:=hZ hk;have hki:(k:Int)<4:=by omega
 have hk0:(0:Int)<=(k:Int):=by omega
 clear h hH hk uW;generalize((iF v.tl k page).getD (0,0)).1=la at*;generalize((iF v.tl k page).getD (0,0)).2=lb at*;generalize(iF v.tl k page).isSome=s at*;go_enter Tryz.func86,Tryz.ntmps86
 go_upto_if 26 with(go_at_call 133;refine Jr.out.mono ?_;rintro e w1 ⟨rfl,hb1⟩;have HB1:=hZ hb1;clear hb1)
 have hw2:=aD w1 (.cells #[.int .i64 la,.int .i64 lb] 147);have X2:=hZ (Bx.new w1 147 #[.int .i64 la,.int .i64 lb]);have M2:Hid (Mo (w1.alloc (.cells #[.int .i64 la,.int .i64 lb] 147)) N (λb=>Z b\/b=w1.heap.size) m r t u c cs v):=hZ ((HM.out.below HB1.out).fresh hw2 (nR _) (by simp));have F2:=hZ ((aN.of HM.out.hN HB1.out).trans (aN.of (HM.out.below HB1.out).hN hw2));obtain⟨b9,bC⟩:∃b9,b9=w1.heap.size:=⟨_,rfl⟩;rw[<-bC] at M2 X2⊢;have HGE:Hid (w.heap.size<=b9):=hZ (by rw[bC];exact HB1.out.size);obtain⟨w2,aCr⟩:∃w2,w2=w1.alloc (.cells #[.int .i64 la,.int .i64 lb] 147):=⟨_,rfl⟩;rw[<-aCr] at M2 X2 F2⊢;clear hw2 aCr bC Jr
 go_cut [] (λwx=>Hid (Mo wx N (λb=>Z b\/b=b9) m r t u c cs v)/\Hid (Bx wx b9 147 #[.int .i64 K,.int .i64 X])/\Hid (aN N w wx))
 case first=>
  cases s with
  |true=>
   obtain⟨ha,hb⟩:=uJ.out rfl;rw[ha,hb] at X2;clear ha hb;go_wp2
   go_meet
   exact⟨M2,X2,F2⟩
  |false=>
   obtain⟨ha,hb⟩:=Yj.out rfl;have HEN:=hZ (rY M2.out HH.out.zb k HK.out page ha);rw[hb] at HEN;clear ha hb;go_wp2_with fail
   refine HEN.out.mono ?_;rintro e w3 ⟨rfl,hb3⟩;have X3:=hZ (X2.out.below hb3);have M3:=hZ (M2.out.below hb3);have F3:=hZ (F2.out.trans (aN.of M2.out.hN hb3));have c0:w3.cell? ⟨b9,0,none⟩=some (.int .i64 la):=(X3.out.cell 0).trans rfl;have c1:w3.cell? ⟨b9,1,none⟩=some (.int .i64 lb):=(X3.out.cell 1).trans rfl;have f0:=X3.out.free 0;have f1:=X3.out.free 1;have lx:=X3.out.lt;clear hb3;go_wp2
   go_meet
   obtain⟨q1,q2,q3⟩:=Oy M3.out (.inr rfl) X3.out F3.out HM.out.hN HGE.out (.int .i64 K) (.int .i64 X);exact⟨hZ q1,hZ q2,hZ q3⟩
 case rest=>
  obtain⟨M3,X3,F3⟩:=hcut;obtain⟨w3,hw3⟩:∃w3,w3=wc:=⟨_,rfl⟩;rw[<-hw3] at M3 X3 F3⊢;clear hw3 M2 X2 F2 uJ Yj HB1;have c0:w3.cell? ⟨b9,0,none⟩=some (.int .i64 K):=(X3.out.cell 0).trans rfl;have c1:w3.cell? ⟨b9,1,none⟩=some (.int .i64 X):=(X3.out.cell 1).trans rfl;have lx:=X3.out.lt;obtain⟨v1,hv1⟩:∃v1,v1=(lL v k page).1:=⟨_,rfl⟩;obtain⟨n1,hn1,hn2⟩:=HH.out.n1;have zD:=hZ hv1;have Qw:=hZ hn1;have Fu:=hZ hn2;clear hv1 hn1 hn2
  go_upto_if 33 with fail
  go_cut [] (λwx=>∃u c cs,Hid (Mo wx N (λb=>Z b\/b=b9) m r t u c cs v1)/\Hid (Bx wx b9 147 #[.int .i64 1,.int .i64 n1])/\Hid (aN N w wx))
  case first=>
   by_cases hK1:K=1
   ·subst hK1
    have e1:lL v k page=(v,X):=by unfold lL;rw[xW.out,if_pos rfl]
    have ex:X=n1:=by have:=Fu.out;rw[e1] at this;exact this
    have ev:v1=v:=by rw[zD.out,e1]
    rw[ex] at X3;rw[<-ev] at M3;clear e1 ex ev c0 c1;have c0:w3.cell? ⟨b9,0,none⟩=some (.int .i64 1):=(X3.out.cell 0).trans rfl;go_wp2
    go_meet
    exact⟨u,c,cs,M3,X3,F3⟩
   ·obtain⟨f,hFT⟩:=HH.out.ft (by rw[xW.out];exact hK1)
    rw[xW.out] at hFT;have e1:lL v k page=(gI (uX v (K,X)) k page 1 f,(f:Int)):=by
     unfold lL;rw[xW.out,if_neg hK1,hFT.tk.n];show(gI (uX v (K,X)) k page 1 (takeN v),(f:Int))=_;rw[hFT.tk.n]
    have ex:(f:Int)=n1:=by have:=Fu.out;rw[e1] at this;exact this
    have ex2:f=n1:=by omega
    have ev:v1=gI (uX v (K,X)) k page 1 f:=by rw[zD.out,e1]
    subst ex2;have Hy:=hZ ev;have Nb:=hZ hFT;have oN:=hZ (Np M3.out hFT.tk);have hfi:(f:Int)<64:=by have:=Qw.out;omega
    have hf0:(0:Int)<=(f:Int):=by omega
    clear ev ex e1 hFT;rcases Nb.out.x01 with h0|⟨h2,hs⟩
    ·obtain rfl:K=0:=h0
     clear hK1;have HFD:Hid (uX v (0,X)=bO (iM (dJ v) f [] []) 0 X):=hZ (by unfold uX;rw[if_neg (show¬((0:Int)=2) by decide),Nb.out.tk.n]);have HST:Hid (xD (bO (iM (dJ v) f [] []) 0 X) k page 1 f):=hZ (by rw[<-HFD.out];exact Nb.out.st)
     go_wp2_with(go_at_call 60
                 refine oN.out.mono ?_;rintro e w4 ⟨rfl,⟨u4,c4,Fe,qD⟩,Sr⟩;have M4:=hZ qD;have F4:=hZ (F3.out.trans Sr);have X4:=hZ (X3.out.bM Sr (by decide) (by decide) (by decide));have c40:w4.cell? ⟨b9,0,none⟩=some (.int .i64 0):=(X4.out.cell 0).trans rfl;have c41:w4.cell? ⟨b9,1,none⟩=some (.int .i64 X):=(X4.out.cell 1).trans rfl;have lx4:=X4.out.lt
                 clear qD Sr c0 c1 lx)
     go_wp2_with fail
     refine(Nq M4.out Nb.out.ts f hf0 hfi none 0 0 [] (.inl ⟨rfl,rfl⟩) none 0 0 [] ⟨rfl,Nat.zero_le _,λh=>absurd h (Nat.lt_irrefl 0)⟩ (.inl rfl) (λq o s e=>by cases e) (λi=>by simp)).mono ?_;rintro e w5 ⟨rfl,kH,hk5⟩;have M5:=hZ kH;have gY:=M4.out.aCL hk5;have F5:=hZ (F4.out.trans gY);have X5:=hZ (X4.out.bM gY (by decide) (by decide) (by decide));have c50:w5.cell? ⟨b9,0,none⟩=some (.int .i64 0):=(X5.out.cell 0).trans rfl;have c51:w5.cell? ⟨b9,1,none⟩=some (.int .i64 X):=(X5.out.cell 1).trans rfl;have lx5:=X5.out.lt;clear kH hk5 gY c40 c41 lx4
     go_wp2_with(first
      |(go_at_call 70
        refine(Vu M5.out X).mono ?_;rintro e w6 ⟨rfl,⟨u6,c6,Da,rV⟩,Sq⟩;have M6:=hZ rV;have F6:=hZ (F5.out.trans Sq);have X6:=hZ (X5.out.bM Sq (by decide) (by decide) (by decide));have c60:w6.cell? ⟨b9,0,none⟩=some (.int .i64 0):=(X6.out.cell 0).trans rfl;have c61:w6.cell? ⟨b9,1,none⟩=some (.int .i64 X):=(X6.out.cell 1).trans rfl;have g60:=X6.out.free 0;have g61:=X6.out.free 1;have lx6:=X6.out.lt;obtain⟨q1,q2,q3⟩:=Oy M6.out (.inr rfl) X6.out F6.out HM.out.hN HGE.out (.int .i64 1) (.int .i64 f);have M7:=hZ q1;have X7:=hZ q2;have F7:=hZ q3
        clear rV Sq q1 q2 q3 c50 c51 lx5)
      |(go_at_call 80
        refine(Gh M7.out HK.out page Qw.out HST.out).mono ?_;rintro e w8 ⟨rfl,⟨u8,c8,Xo,Cz⟩,C9⟩;have M8:=hZ Cz;have F8:=hZ (F7.out.trans C9);have X8:=hZ (X7.out.bM C9 (by decide) (by decide) (by decide))
        clear Cz C9 c60 c61 g60 g61 lx6))
     go_meet
     rw[Hy.out,HFD.out];exact⟨u8,c8,Xo,M8,X8,F8⟩
    ·obtain rfl:K=2:=h2
     clear hK1;obtain⟨I6,hlv,hbl,htl,htg⟩:=hs;have HLV:=hZ hlv;have Jv:=hZ hbl;have Hq:=hZ htl;have HTG:=hZ htg;have hgd:(dJ v).dv.getD X.toNat default=I6:=by
      obtain⟨_,e,_⟩:=hlv;simp[List.getD,e]
     have HFD:Hid (uX v (2,X)=bO (iM (dJ v) f I6.b I6.t) 2 X):=hZ (by unfold uX;rw[if_pos rfl,Nb.out.tk.n];show bO (iM (dJ v) f ((dJ v).dv.getD X.toNat default).b ((dJ v).dv.getD X.toNat default).t) 2 X=_;rw[hgd]);have HST:Hid (xD (bO (iM (dJ v) f I6.b I6.t) 2 X) k page 1 f):=hZ (by rw[<-HFD.out];exact Nb.out.st);clear hlv hbl htl htg hgd
     go_wp2_with(go_at_call 60
                 refine oN.out.mono ?_;rintro e w4 ⟨rfl,⟨u4,c4,Fe,qD⟩,Sr⟩;have M4:=hZ qD;have F4:=hZ (F3.out.trans Sr);have X4:=hZ (X3.out.bM Sr (by decide) (by decide) (by decide));have c40:w4.cell? ⟨b9,0,none⟩=some (.int .i64 2):=(X4.out.cell 0).trans rfl;have c41:w4.cell? ⟨b9,1,none⟩=some (.int .i64 X):=(X4.out.cell 1).trans rfl;have lx4:=X4.out.lt
                 clear qD Sr c0 c1 lx)
     obtain⟨Ad,cd,xd,cdv,hzd,hqd⟩:=M4.out.P9;have iZ:=hZ (λW (hW:Below w4.heap.size w4 W)=>aGg (Q:=kS (λb=>Z b\/b=b9) m r t u4) Ad 64 cd xd (dJ v).dv X W (hzd.keeps (P:=λ_=>True) (λb hb' _=>hW.block b hb') hW.size (λ_ _ _ _ _=>trivial)) (Gp hqd hW) I6 HLV.out);have l4:=M4.out.size;clear hzd hqd;have gc:∀(d:Nat) (os:Array Obj) (b o:Nat),b<w4.heap.size->(grow (redrawn w4 d) os).cell? ⟨b,o,none⟩=w4.cell? ⟨b,o,none⟩:=λd os b o h=>(below_regrown _ d os).cell (p:=⟨b,o,none⟩) h;refine fK [Sp.gen 6 (λu=>∃A c A' c',u=.tuple #[.slice A 64 c,.slice A' 4 c',.int .i64 0]) (λx W=>∀A c A' c',x=.tuple #[.slice A 64 c,.slice A' 4 c',.int .i64 0]->Own .u8 5 W w4.heap.size A 64 c I6.b/\Own .i64 3 W w4.heap.size A' 4 c' I6.t) ⟨_,none,0,none,0,rfl⟩ (λx W W' h hb A c A' c' e=>⟨(h A c A' c' e).1.below hb (nR _),(h A c A' c' e).2.below hb (nR _)⟩)] (by kernel_rfl) (by kernel_rfl) ?_;intro V hV;obtain⟨A6,c6',A7,c7',e6⟩:∃A c A' c',V 6=.tuple #[.slice A 64 c,.slice A' 4 c',.int .i64 0]:=hV 6
     (refine rq rfl rfl ?_;go_big_quiet_step(fail);refine wpQuiet_nil ?_)
     refine rn ⟨m,0,none⟩ (by kernel_rfl) rfl rfl ?_;go_big_quiet_step(fail);refine wpQuiet_nil ?_;iterate 4 (refine rq rfl rfl ?_;go_big_quiet_step(fail);refine wpQuiet_nil ?_)
     refine mQ (Sp.gen 6 _ _ _ _) (by kernel_rfl) rfl (λw' hb hf=> ?_) ?_
     ·refine bY (f:=134) (args:= #[.slice Ad 64 cd,.int .i64 X]) ?_ ((iZ.out w' hb).mono ?_)
      ·go_simp
      ·rintro e W ⟨A1,n1',c1',A2,n2',c2',rfl,o1,o2,hbw⟩
       obtain rfl:n1'=64:=by rw[<-o1.1];exact Jv.out
       obtain rfl:n2'=4:=by rw[<-o2.1];exact Hq.out
       exact⟨_,rfl,hbw,⟨A1,c1',A2,c2',rfl⟩,λa b c d e2=>by cases e2;exact⟨Er o1 hb.size,Er o2 hb.size⟩⟩
     go_big_quiet_step(fail);refine wpQuiet_nil ?_;simp only[e6];iterate 7 (refine rq rfl rfl ?_;go_big_quiet_step(fail);refine wpQuiet_nil ?_)
     refine rend ?_;intro wg hbg hf;have hog:Own .u8 5 wg w4.heap.size A6 64 c6' I6.b/\Own .i64 3 wg w4.heap.size A7 4 c7' I6.t:=hf _ (List.Mem.head _) A6 c6' A7 c7' rfl;have MG:=hZ (M4.out.below hbg);have FG:=hZ (F4.out.trans (aN.of M4.out.hN hbg));have XG:=hZ (X4.out.below hbg);obtain⟨l1,l2,l3,_⟩:=M4.out.lt;have aJS:Hid (Src (wg.setCells r ((f:Int)*64).toNat Aq) A6 64 I6.b):=hZ (aKS hog.1 l2);have aJT:=hZ hog.2.row
     have HLOC:Hid (∀q o s,A7=some ⟨q,o,s⟩->0<4->q≠r/\q≠t):=hZ (λq o s e _=>by
      obtain⟨g,e2,hg,_⟩:=Wj hog.2 (by decide)
      rw[e] at e2;cases e2;omega)
     clear hf hV gc e6 hbg hog iZ cdv l4 c40 c41 lx4 l1 l2 l3;go_wp2_with(go_at_call 67;refine(mR _).mono ?_;rintro e w' ⟨rfl,hw⟩;rw[hw];clear hw)
     refine(Nq MG.out Nb.out.ts f hf0 hfi A6 64 c6' I6.b aJS.out A7 4 c7' I6.t aJT.out (.inr rfl) HLOC.out HTG.out).mono ?_;rintro e w5 ⟨rfl,kH,hk5⟩;have M5:=hZ kH;have gY:=MG.out.aCL hk5;have F5:=hZ (FG.out.trans gY);have X5:=hZ (XG.out.bM gY (by decide) (by decide) (by decide));have c50:w5.cell? ⟨b9,0,none⟩=some (.int .i64 2):=(X5.out.cell 0).trans rfl;have c51:w5.cell? ⟨b9,1,none⟩=some (.int .i64 X):=(X5.out.cell 1).trans rfl;have lx5:=X5.out.lt;clear kH hk5 gY
     go_wp2_with(first
      |(go_at_call 70
        refine(Z8 M5.out X HLV.out).mono ?_;rintro e w6 ⟨rfl,⟨u6,c6,Da,rV⟩,Sq⟩;have M6:=hZ rV;have F6:=hZ (F5.out.trans Sq);have X6:=hZ (X5.out.bM Sq (by decide) (by decide) (by decide));have c60:w6.cell? ⟨b9,0,none⟩=some (.int .i64 2):=(X6.out.cell 0).trans rfl;have c61:w6.cell? ⟨b9,1,none⟩=some (.int .i64 X):=(X6.out.cell 1).trans rfl;have g60:=X6.out.free 0;have g61:=X6.out.free 1;have lx6:=X6.out.lt;obtain⟨q1,q2,q3⟩:=Oy M6.out (.inr rfl) X6.out F6.out HM.out.hN HGE.out (.int .i64 1) (.int .i64 f);have M7:=hZ q1;have X7:=hZ q2;have F7:=hZ q3
        clear rV Sq q1 q2 q3 c50 c51 lx5)
      |(go_at_call 80
        refine(Gh M7.out HK.out page Qw.out HST.out).mono ?_;rintro e w8 ⟨rfl,⟨u8,c8,Xo,Cz⟩,C9⟩;have M8:=hZ Cz;have F8:=hZ (F7.out.trans C9);have X8:=hZ (X7.out.bM C9 (by decide) (by decide) (by decide))
        clear Cz C9 c60 c61 g60 g61 lx6))
     go_meet
     rw[Hy.out,HFD.out];exact⟨u8,c8,Xo,M8,X8,F8⟩
  case rest=>
   obtain⟨u4,c4,Fe,M4,X4,F4⟩:=hcut;obtain⟨w4,hw4⟩:∃w4,w4=wc:=⟨_,rfl⟩;rw[<-hw4] at M4 X4 F4⊢;clear hw4 M3 X3 F3 c0 c1 lx xW;obtain⟨R,hR⟩:∃R,R=v1.rf n1:=⟨_,rfl⟩;have HR:=hZ hR;have cr:w4.cell? ⟨m,3+n1,none⟩=some (.int .i64 R):=by rw[hR];exact M4.out.aBb Qw.out
   have c1:w4.cell? ⟨b9,1,none⟩=some (.int .i64 n1):=(X4.out.cell 1).trans rfl;have lx:=X4.out.lt;have lm:=M4.out.size;have hni:(n1:Int)<64:=by have:=Qw.out;omega
   have hn0:(0:Int)<=(n1:Int):=by omega
   clear hR;obtain⟨sh,hsh⟩:∃sh,sh=(W&&decide (1<R)):=⟨_,rfl⟩;have Dc:=hZ hsh;clear hsh;go_upto_region 14 with fail
   go_cut [81] (λs81 wx=>s81=.bool sh/\Hid (Below w4.heap.size w4 wx))
   case first=>
    have gc:∀(d:Nat) (os:Array Obj) (b o:Nat),b<w4.heap.size->(grow (redrawn w4 d) os).cell? ⟨b,o,none⟩=w4.cell? ⟨b,o,none⟩:=λd os b o h=>(below_regrown _ d os).cell (p:=⟨b,o,none⟩) h;cases W with
    |false=>
     refine fK [] (by kernel_rfl) (by kernel_rfl) ?_;intro V hV;iterate 2 (refine rq rfl rfl ?_;go_big_quiet_step(fail);refine wpQuiet_nil ?_)
     iterate 9 (refine rk (by kernel_rfl) ?_;go_big_quiet_step(fail);refine wpQuiet_nil ?_)
     (refine rq rfl rfl ?_;go_big_quiet_step(fail);refine wpQuiet_nil ?_)
     refine rend ?_;intro w5 hb5 hf;have vU:=hZ hb5;clear hb5 hf gc;go_wp2
     go_meet
     exact⟨by rw[Dc.out];rfl,vU⟩
    |true=>
     refine fK [] (by kernel_rfl) (by kernel_rfl) ?_;intro V hV;iterate 5 (refine rq rfl rfl ?_;go_big_quiet_step(fail);refine wpQuiet_nil ?_)
     refine rn ⟨m,0,none⟩ (by kernel_rfl) rfl rfl ?_;go_big_quiet_step(fail);refine wpQuiet_nil ?_;iterate 6 (refine rq rfl rfl ?_;go_big_quiet_step(fail);refine wpQuiet_nil ?_)
     refine rend ?_;intro w5 hb5 hf;have vU:=hZ hb5;clear hb5 hf gc;go_wp2
     go_meet
     exact⟨by rw[Dc.out];simp,vU⟩
   case rest=>
    obtain⟨rfl,vU⟩:=hcut;have M5:=hZ (M4.out.below vU.out);have X5:=hZ (X4.out.below vU.out);have F5:=hZ (F4.out.trans (aN.of M4.out.hN vU.out));obtain⟨w5,nJ⟩:∃w5,w5=wc:=⟨_,rfl⟩;rw[<-nJ] at M5 X5 F5⊢;clear nJ cr c1 lx lm vU M4 X4 F4;obtain⟨v2,hv2⟩:∃v2,v2=(sO (lL v k page).1 k page (lL v k page).2 W).1:=⟨_,rfl⟩;obtain⟨n2,aM9,aM8⟩:=HH.out.n2;have iG:=hZ hv2;have aJW:=hZ aM9;have aJV:Hid ((sO v1 k page n1 W).2=n2):=hZ (by rw[<-aM8,zD.out,<-Fu.out];rfl);have aNI:Hid (v2=(sO v1 k page n1 W).1):=hZ (by rw[hv2,zD.out,Fu.out]);clear hv2 aM9 aM8
    go_upto_if 81 with fail
    go_cut [] (λwx=>∃u c cs,Hid (Mo wx N (λb=>Z b\/b=b9) m r t u c cs v2)/\Hid (Bx wx b9 147 #[.int .i64 1,.int .i64 n2])/\Hid (aN N w wx))
    case first=>
     have hsh:=Dc.out;cases sh with
     |true=>
      obtain⟨hW,hR⟩:W=true/\1<R:=by
       cases W
       ·cases hsh
       ·exact⟨rfl,by simpa using hsh.symm⟩
      subst hW;clear hsh;obtain⟨f2,hCP⟩:=HH.out.cp n1 Fu.out rfl (by rw[<-zD.out,<-HR.out];exact hR);rw[<-zD.out] at hCP;have Tn:=hZ hCP;have hgi:(f2:Int)<64:=by have:=hCP.tk.l;omega
      have hg0:(0:Int)<=(f2:Int):=by omega
      have HTN:Hid (takeN (sQ v1 n1)=f2):=hZ hCP.tk.n;have hc2:sO v1 k page n1 true=(gI (bO (yT v1 n1) 1 n1) k page 1 f2,(f2:Int)):=by
       unfold sO;rw[if_pos ⟨rfl,by rw[Int.toNat_natCast,<-HR.out];exact hR⟩];unfold copyV;rw[hCP.tk.n];unfold yT;rw[hCP.tk.n]
      have ev:v2=gI (bO (yT v1 n1) 1 n1) k page 1 f2:=by rw[aNI.out,hc2]
      have en:f2=n2:=by have:=aJV.out;rw[hc2] at this;simp only at this;omega
      have Hy:=hZ ev;have HEN:=hZ en;have c0:w5.cell? ⟨b9,0,none⟩=some (.int .i64 1):=(X5.out.cell 0).trans rfl;have c1:w5.cell? ⟨b9,1,none⟩=some (.int .i64 n1):=(X5.out.cell 1).trans rfl;have lx:=X5.out.lt;have lm:=M5.out.size;clear ev en hc2 hCP hR;go_wp2;have gc:∀(d:Nat) (os:Array Obj) (b o:Nat),b<w5.heap.size->(grow (redrawn w5 d) os).cell? ⟨b,o,none⟩=w5.cell? ⟨b,o,none⟩:=λd os b o h=>(below_regrown _ d os).cell (p:=⟨b,o,none⟩) h;refine kD 6 [] (by kernel_rfl) (by kernel_rfl) (by kernel_rfl) ?_;intro V hV;simp only[List.take_succ_cons,List.take_zero,List.drop_succ_cons,List.drop_zero];iterate 3 (refine rq rfl rfl ?_;go_big_quiet_step(fail);refine wpQuiet_nil ?_)
      refine rn ⟨m,0,none⟩ (by kernel_rfl) rfl rfl ?_;go_big_quiet_step(fail);refine wpQuiet_nil ?_;iterate 2 (refine rq rfl rfl ?_;go_big_quiet_step(fail);refine wpQuiet_nil ?_)
      refine rend ?_;intro w6 hb6 hf;clear hf hV gc c0 c1 lx lm;have M6':=hZ (M5.out.below hb6);have F6':=hZ (F5.out.trans (aN.of M5.out.hN hb6));have X6':=hZ (X5.out.below hb6);have cf:=M6'.out.Dw Qw.out;have ff:=M6'.out.free (114+n1);have lm:=M6'.out.size
      have M7:Hid (Mo (w6.setCell ⟨m,114+n1,none⟩ (.bool true)) N (λb=>Z b\/b=b9) m r t u4 c4 (Fe.setIfInBounds (114+n1) (.bool true)) (sQ v1 n1)):=hZ (by
       have:=M6'.out.Bj Qw.out true
       unfold sQ;rw[Int.toNat_natCast];exact this)
      have F7:=hZ (F6'.out.trans (M6'.out.kZ (114+n1) (.bool true)));have X7:=hZ (X6'.out.bM (M6'.out.kZ (114+n1) (.bool true)) (by decide) (by decide) (by decide));clear hb6
      go_wp2_with(go_at_call 60
                  refine(Np M7.out Tn.out.tk).mono ?_;rintro e w8 ⟨rfl,⟨u8,c8,Xo,Cz⟩,C9⟩;have M8:=hZ Cz;have F8:=hZ (F7.out.trans C9);have X8:=hZ (X7.out.bM C9 (by decide) (by decide) (by decide))
                  clear Cz C9 cf ff lm)
      have c0:w8.cell? ⟨b9,0,none⟩=some (.int .i64 1):=(X8.out.cell 0).trans rfl;have c1:w8.cell? ⟨b9,1,none⟩=some (.int .i64 n1):=(X8.out.cell 1).trans rfl;have lx:=X8.out.lt;have lm:=M8.out.size;have gc:∀(d:Nat) (os:Array Obj) (b o:Nat),b<w8.heap.size->(grow (redrawn w8 d) os).cell? ⟨b,o,none⟩=w8.cell? ⟨b,o,none⟩:=λd os b o h=>(below_regrown _ d os).cell (p:=⟨b,o,none⟩) h;refine kD 6 [] (by kernel_rfl) (by kernel_rfl) (by kernel_rfl) ?_;intro V hV;simp only[List.take_succ_cons,List.take_zero,List.drop_succ_cons,List.drop_zero];iterate 3 (refine rq rfl rfl ?_;go_big_quiet_step(fail);refine wpQuiet_nil ?_)
      refine rn ⟨m,0,none⟩ (by kernel_rfl) rfl rfl ?_;go_big_quiet_step(fail);refine wpQuiet_nil ?_;iterate 2 (refine rq rfl rfl ?_;go_big_quiet_step(fail);refine wpQuiet_nil ?_)
      refine rend ?_;intro w9 hb6 hf;clear hf hV gc c0 c1 lx lm;have M9':=hZ (M8.out.below hb6);have F9':=hZ (F8.out.trans (aN.of M8.out.hN hb6));have X9':=hZ (X8.out.below hb6);have cf:=M9'.out.Dw Qw.out;have ff:=M9'.out.free (114+n1);have lm:=M9'.out.size
      have Ho:Hid (Mo (w9.setCell ⟨m,114+n1,none⟩ (.bool false)) N (λb=>Z b\/b=b9) m r t u8 c8 (Xo.setIfInBounds (114+n1) (.bool false)) (mH v1 n1)):=hZ (by
       have:=M9'.out.Bj Qw.out false
       unfold mH;rw[Int.toNat_natCast];exact this)
      have F10:=hZ (F9'.out.trans (M9'.out.kZ (114+n1) (.bool false)));have X10:=hZ (X9'.out.bM (M9'.out.kZ (114+n1) (.bool false)) (by decide) (by decide) (by decide));obtain⟨Ee,aM1⟩:∃Ee,Ee=w9.setCell ⟨m,114+n1,none⟩ (.bool false):=⟨_,rfl⟩;clear hb6;go_wp2;rw[<-aM1] at Ho F10 X10⊢;clear aM1 cf ff lm;have c0:Ee.cell? ⟨b9,0,none⟩=some (.int .i64 1):=(X10.out.cell 0).trans rfl;have c1:Ee.cell? ⟨b9,1,none⟩=some (.int .i64 n1):=(X10.out.cell 1).trans rfl;have lx:=X10.out.lt;have gc:∀(d:Nat) (os:Array Obj) (b o:Nat),b<Ee.heap.size->(grow (redrawn Ee d) os).cell? ⟨b,o,none⟩=Ee.cell? ⟨b,o,none⟩:=λd os b o h=>(below_regrown _ d os).cell (p:=⟨b,o,none⟩) h;refine kD 10 [Sp.call 5 (.slice (some ⟨r,((n1:Int)*64).toNat,none⟩) 64 (4096 - ((n1:Int)*64).toNat)),Sp.gen 9 (λx=>∃A c,x=.slice A 4 c) (λx Wd=>∀A c,x=.slice A 4 c->Own .i64 3 Wd Ee.heap.size A 4 c (jS (mH v1 n1).ts n1)) ⟨_,none,0,rfl⟩ (λx Wd W' h hb A c e=>(h A c e).below hb (nR _))] (by kernel_rfl) (by kernel_rfl) (by kernel_rfl) ?_;intro V hV;have e5:V 5=.slice (some ⟨r,((n1:Int)*64).toNat,none⟩) 64 (4096 - ((n1:Int)*64).toNat):=hV 5;obtain⟨A9,c9,e9⟩:∃A c,V 9=.slice A 4 c:=hV 9;simp only[List.take_succ_cons,List.take_zero,List.drop_succ_cons,List.drop_zero];iterate 5 (refine rq rfl rfl ?_;go_big_quiet_step(fail);refine wpQuiet_nil ?_)
      refine mQ (Sp.call 5 _) (by kernel_rfl) rfl (λw' hb hf=> ?_) ?_
      ·refine rF (f:=65) (args:= #[.pointer (some ⟨m,0,none⟩),.int .i64 n1]) ?_ (J5 (Ho.out.below hb) n1 hn0 hni)
       go_simp
      go_big_quiet_step(fail);refine wpQuiet_nil ?_;simp only[e5];iterate 3 (refine rq rfl rfl ?_;go_big_quiet_step(fail);refine wpQuiet_nil ?_)
      refine mQ (Sp.gen 9 _ _ _ _) (by kernel_rfl) rfl (λw' hb hf=> ?_) ?_
      ·refine bY (f:=66) (args:= #[.pointer (some ⟨m,0,none⟩),.int .i64 n1]) ?_ ((Ia (Ho.out.below hb) Tn.out.tb n1 hn0 hni).mono ?_)
       ·go_simp
       ·rintro e Wd ⟨A',c',rfl,ho,hbw⟩
        exact⟨_,rfl,hbw,⟨A',c',rfl⟩,λA2 c2 e2=>by cases e2;exact Er ho hb.size⟩
      go_big_quiet_step(fail);refine wpQuiet_nil ?_;simp only[e9];refine rend ?_;intro w11 Ux hf;have W9:Own .i64 3 w11 Ee.heap.size A9 4 c9 (jS (mH v1 n1).ts n1):=hf _ (List.Mem.head _) A9 c9 rfl;have M11:=hZ (Ho.out.below Ux);have F11:=hZ (F10.out.trans (aN.of Ho.out.hN Ux));have X11:=hZ (X10.out.below Ux);obtain⟨_,l2,l3,_⟩:=Ho.out.lt;have aJS:Hid (Src (w11.setCells r ((f2:Int)*64).toNat Aq) (some ⟨r,((n1:Int)*64).toNat,none⟩) 64 (tL (mH v1 n1).zs n1)):=hZ (aGG M11.out Qw.out Tn.out.tk.l Tn.out.ne (by simp[Aq]));have aJT:=hZ W9.row
      have HLOC:Hid (∀q o s,A9=some ⟨q,o,s⟩->0<4->q≠r/\q≠t):=hZ (λq o s e _=>by
       obtain⟨g,e2,hg,_⟩:=Wj W9 (by decide)
       rw[e] at e2;cases e2;omega)
      have H5:Hid (yT v1 n1=iM (mH v1 n1) f2 (tL (mH v1 n1).zs n1) (jS (mH v1 n1).ts n1)):=hZ (by unfold yT;rw[HTN.out]);clear hf hV gc e5 e9 Ux W9 c0 c1 lx l2 l3;go_wp2_with fail
      refine(Nq M11.out Tn.out.tb f2 hg0 hgi (some ⟨r,((n1:Int)*64).toNat,none⟩) 64 (4096 - ((n1:Int)*64).toNat) (tL (mH v1 n1).zs n1) aJS.out A9 4 c9 (jS (mH v1 n1).ts n1) aJT.out (.inr rfl) HLOC.out (Uy Tn.out.tb _)).mono ?_;rintro e w12 ⟨rfl,aI1,aFx⟩;rw[<-H5.out] at aI1;have M12:=hZ aI1;have aI8:=M11.out.aCL aFx;have F12:=hZ (F11.out.trans aI8);have X12:=hZ (X11.out.bM aI8 (by decide) (by decide) (by decide));have c0:w12.cell? ⟨b9,0,none⟩=some (.int .i64 1):=(X12.out.cell 0).trans rfl;have c1:w12.cell? ⟨b9,1,none⟩=some (.int .i64 n1):=(X12.out.cell 1).trans rfl;have lx:=X12.out.lt;have aNL:Hid (kR (yT v1 n1).rf/\(yT v1 n1).rf n1≠0):=hZ ⟨Tn.out.rf,Tn.out.r0⟩;clear aI1 aFx aI8
      go_wp2_with(first
       |(go_at_call 70
         refine(x8 M12.out aNL.out.1 Qw.out aNL.out.2).mono ?_;rintro e w13 ⟨rfl,⟨u13,c13,aPV,aNb⟩,aI7⟩;have M13:=hZ aNb;have F13:=hZ (F12.out.trans aI7);have X13:=hZ (X12.out.bM aI7 (by decide) (by decide) (by decide));have c130:w13.cell? ⟨b9,0,none⟩=some (.int .i64 1):=(X13.out.cell 0).trans rfl;have c131:w13.cell? ⟨b9,1,none⟩=some (.int .i64 n1):=(X13.out.cell 1).trans rfl;have aO1:=X13.out.free 1;have aOq:=X13.out.lt;obtain⟨q1,q2,q3⟩:=aFk M13.out (.inr rfl) X13.out F13.out HM.out.hN HGE.out (.int .i64 f2);have M14:=hZ q1;have X14:=hZ q2;have F14:=hZ q3
         clear aNb aI7 q1 q2 q3 c0 c1 lx)
       |(go_at_call 80
         refine(Gh M14.out HK.out page Tn.out.tk.l Tn.out.st).mono ?_;rintro e w15 ⟨rfl,⟨u15,c15,aO5,aNa⟩,aI6⟩;have M15:=hZ aNa;have F15:=hZ (F14.out.trans aI6);have X15:=hZ (X14.out.bM aI6 (by decide) (by decide) (by decide))
         clear aNa aI6 c130 c131 aO1 aOq))
      go_meet
      rw[Hy.out,<-HEN.out];exact⟨u15,c15,aO5,M15,X15,F15⟩
     |false=>
      have hsh:¬(W=true/\1<R):=λh=>by rw[h.1,decide_eq_true h.2] at hsh;cases hsh
      have e2:sO v1 k page n1 W=(v1,(n1:Int)):=by
       unfold sO;rw[if_neg];rw[Int.toNat_natCast,<-HR.out];exact hsh
      have ev:v2=v1:=by rw[aNI.out,e2]
      have en:n1=n2:=by have:=aJV.out;rw[e2] at this;simp only at this;omega
      rw[en] at X5;rw[<-ev] at M5;clear e2 ev en hsh;go_wp2
      go_meet
      exact⟨u4,c4,Fe,M5,X5,F5⟩
    case rest=>
     obtain⟨u6,c6,Da,M6,X6,F6⟩:=hcut;obtain⟨w6,xO⟩:∃w6,w6=wc:=⟨_,rfl⟩;rw[<-xO] at M6 X6 F6⊢;clear xO M5 X5 F5;have hgi:(n2:Int)<64:=by have:=aJW.out;omega
     have hg0:(0:Int)<=(n2:Int):=by omega
     have c1:w6.cell? ⟨b9,1,none⟩=some (.int .i64 n2):=(X6.out.cell 1).trans rfl;have cu:=M6.out.Qf;have lx:=X6.out.lt;have lm:=M6.out.size;go_wp2;have gc:∀(d:Nat) (os:Array Obj) (b o:Nat),b<w6.heap.size->(grow (redrawn w6 d) os).cell? ⟨b,o,none⟩=w6.cell? ⟨b,o,none⟩:=λd os b o h=>(below_regrown _ d os).cell (p:=⟨b,o,none⟩) h;refine kD 7 [] (by kernel_rfl) (by kernel_rfl) (by kernel_rfl) ?_;intro V hV;simp only[List.take_succ_cons,List.take_zero,List.drop_succ_cons,List.drop_zero]
     (refine rq rfl rfl ?_;go_big_quiet_step(fail);refine wpQuiet_nil ?_)
     refine rn ⟨m,0,none⟩ (by kernel_rfl) rfl rfl ?_;go_big_quiet_step(fail);refine wpQuiet_nil ?_;iterate 5 (refine rq rfl rfl ?_;go_big_quiet_step(fail);refine wpQuiet_nil ?_)
     refine rend ?_;intro w7 eX hf;have M7:=hZ (M6.out.below eX);have F7:=hZ (F6.out.trans (aN.of M6.out.hN eX));have X7:=hZ (X6.out.below eX);obtain⟨b0,cu7,fu7,lu7⟩:=M7.out.aKF aJW.out;have M8:Hid (Mo (w7.setCell ⟨u6,n2,none⟩ (.bool true)) N (λb=>Z b\/b=b9) m r t u6 c6 Da { v2 with us:=v2.us.set n2 true }):=hZ (M7.out.aD6 aJW.out true);have hfu:=M7.out.aKo ((bD.refl (λq=>q=u6) w7).cell (.inl rfl) n2 (.bool true));have F8:=hZ (F7.out.trans hfu);have X8:=hZ (X7.out.bM hfu (by decide) (by decide) (by decide));clear hf hV gc c1 cu lx lm eX hfu;go_wp2;obtain⟨w8,hw8⟩:∃w8,w8=w7.setCell ⟨u6,n2,none⟩ (.bool true):=⟨_,rfl⟩;rw[<-hw8] at M8 F8 X8⊢;clear hw8 cu7 fu7 lu7;have c0:w8.cell? ⟨b9,0,none⟩=some (.int .i64 1):=(X8.out.cell 0).trans rfl;have c1:w8.cell? ⟨b9,1,none⟩=some (.int .i64 n2):=(X8.out.cell 1).trans rfl;have lx:=X8.out.lt;have lm:=M8.out.size;have gc:∀(d:Nat) (os:Array Obj) (b o:Nat),b<w8.heap.size->(grow (redrawn w8 d) os).cell? ⟨b,o,none⟩=w8.cell? ⟨b,o,none⟩:=λd os b o h=>(below_regrown _ d os).cell (p:=⟨b,o,none⟩) h;refine kD 7 [] (by kernel_rfl) (by kernel_rfl) (by kernel_rfl) ?_;intro V hV;simp only[List.take_succ_cons,List.take_zero,List.drop_succ_cons,List.drop_zero]
     (refine rq rfl rfl ?_;go_big_quiet_step(fail);refine wpQuiet_nil ?_)
     refine rn ⟨m,0,none⟩ (by kernel_rfl) rfl rfl ?_;go_big_quiet_step(fail);refine wpQuiet_nil ?_;iterate 5 (refine rq rfl rfl ?_;go_big_quiet_step(fail);refine wpQuiet_nil ?_)
     refine rend ?_;intro w9 bC hf;have M9:=hZ (M8.out.below bC);have F9:=hZ (F8.out.trans (aN.of M8.out.hN bC));have X9:=hZ (X8.out.below bC);clear hf hV gc c0 c1 lx lm bC;go_wp2_with fail
     refine(aIP ⟨k,page,1,n2⟩ v2.tl m 68 w9 M9.out.tl (by rw[iG.out];exact HH.out.tl2)).mono ?_;intro e Ee hp;obtain⟨aJy,Po⟩:=M9.out.kept hp;obtain⟨rfl,_,_,hpast⟩:=hp;have Ag:=hpast.bM M9.out.X M9.out.nm M9.out.hN;have Ho:=hZ Po;have F10:=hZ (F9.out.trans Ag);have X10:=hZ (X9.out.bM Ag (by decide) (by decide) (by decide));have c1:Ee.cell? ⟨b9,1,none⟩=some (.int .i64 n2):=(X10.out.cell 1).trans rfl;have lx:=X10.out.lt;clear Po hpast Ag;go_wp2;go_ret;have hN:yL v k page W=n2:=by rw[<-aJV.out,zD.out,<-Fu.out];rfl
     have hV:jW v k page W= { v2 with us:=v2.us.set n2 true,tl:=Fb (fF k page v2.tl++ [⟨k,page,1,n2⟩]) } :=by
      unfold jW;rw[hN,<-iG.out];unfold Wm;rw[Int.toNat_natCast]
     refine⟨by rw[hN];rfl,⟨u6,c6,aJy,?_⟩,F10.out⟩;rw[hV];exact Ho.out.less λb hz=>.inl hz
def aDu (v:Vm) (x:Int×Int):Prop:=x.1=0\/(x.1=1/\∃f:Nat,x.2=f/\f<64/\kR v.rf/\v.rf f≠0)\/(x.1=2/\∃s,uQ v.dv x.2 s)
theorem aGm {w:World} {N m r t u c:Nat} {Z:Nat->Prop} {cs:Array Value} {v:Vm} (h:Mo w N Z m r t u c cs v) {K X:Int} (hD:aDu v (K,X)):
 Calls Tryz.prog 70 #[.pointer (some ⟨m,0,none⟩),.agg #[.int .i64 K,.int .i64 X]] w (Gv N Z m r t (bO v K X) w):=by
 rcases hD with h0|⟨h1,f,hf,hl,hr,h0⟩|⟨h2,s,hs⟩
 ·obtain rfl:K=0:=h0
  exact Vu h X
 ·obtain rfl:K=1:=h1
  obtain rfl:X=f:=hf;exact x8 h hr hl h0
 ·obtain rfl:K=2:=h2
  exact Z8 h X hs
structure Q3 (u:Vm) (k n:Nat):Prop where
 zb:Bytes u.zs
 tl:u.tl.length<=1000
 ge:lI u.zs (u.ps k).root n=0
 tp:(gF u k n).1≠0->nO u.zs (u.ps k).root n 0 0=0
 dp:aDu (eT u k n 0 0) (gF u k n)
theorem J4 {w:World} {N m r t u c:Nat} {Z:Nat->Prop} {cs:Array Value} {v:Vm} (h:Mo w N Z m r t u c cs v) {k:Nat} (hk:k<4) {x:Value} {keep:List aC} (hx:Rt w x keep) (hE:∀n:Nat,n<64->(dF keep n).isSome=false->Q3 (iA v k keep n) k n):
 Calls Tryz.prog 72 #[.pointer (some ⟨m,0,none⟩),.int .i64 k,x] w (Gv N Z m r t (kL v k keep) w):=by
 have HM:=hZ h;have HX:=hZ hx;have HE:=hZ hE;have HK:=hZ hk;have hki:(k:Int)<4:=by omega
 have hk0:(0:Int)<=(k:Int):=by omega
 obtain⟨A,nn,cc,rfl,_⟩:=hx.rv;clear h hx hE hk;go_enter Tryz.func72,Tryz.ntmps72;go_wp2;go_loopw [10] (λi wr=>∃n:Nat,n<=64/\i=.int .i64 n/\Hid (Mr wr N Z m r t (iA v k keep n))/\Hid (aN N w wr)) (λi _=>64 - (intOf i).toNat)
 case atStart=>exact⟨0,by omega,rfl,hZ ⟨u,c,cs,HM.out⟩,hZ (aN.refl _ _)⟩
 case round=>
  obtain⟨n,hn,rfl,Dh,xX⟩:=hrel;by_cases hlt:n<64
  ·have hni:(n:Int)<64:=by omega
   have hn0:(0:Int)<=(n:Int):=by omega
   obtain⟨u',c',cs',hM⟩:=Dh.out;have lF:=hZ hM;have uK:=hZ (HX.out.keep (λb cur hx=>hx.bM xX.out (by decide) (by decide) (by decide)));have uH:Hid (iA v k keep (n+1)=J9 k keep (iA v k keep n) n):=hZ (Il _ _ _ _);have Hw:=hZ (aEz uK.out (n:Int));unfold Ym at Hw;clear hM;cases hat:dF keep (n:Int) with
   |some a=>
    rw[hat] at Hw;have HN:Hid (iA v k keep (n+1)=iA v k keep n):=hZ (by rw[uH.out];unfold J9;rw[hat,if_pos (.inl rfl)]);simp only[Option.getD_some,Option.isSome_some] at Hw;clear hat;go_wp2_with fail
    refine Hw.out.mono ?_;rintro e w1 ⟨rfl,hb1⟩;have M1:=hZ (lF.out.below hb1);have F1:=hZ (xX.out.trans (aN.of lF.out.hN hb1));have hw2:=aD w1 (.cells #[.int .i64 a.r,.int .i64 a.k,.bool a.g,.bool a.s] 97);have M2:=hZ (M1.out.below hw2);have F2:=hZ (F1.out.trans (aN.of M1.out.hN hw2));clear hb1 hw2;go_wp2;go_roundw
    case rel=>exact⟨n+1,by omega,by go_num,hZ (by rw[HN.out];exact⟨u',c',cs',M2.out⟩),F2⟩
    case measure=>simp[intOf];omega
   |none=>
    have zQ:=hZ (HE.out n hlt (by rw[hat];rfl));rw[hat] at Hw;obtain⟨U,hU⟩:∃U,U=iA v k keep n:=⟨_,rfl⟩;rw[<-hU] at lF uH zQ;obtain⟨K,X,uW⟩:∃K X,gF U k n=(K,X):=⟨_,_,rfl⟩
    have HST:Hid (iA v k keep (n+1)=if K=0 then U else bO (eT U k n 0 0) K X):=hZ (by
     rw[uH.out];unfold J9;rw[hat,uW];by_cases h0:K=0
     ·rw[if_pos (.inr h0),if_pos h0]
     ·rw[if_neg (by simp[h0]),if_neg h0])
    have HTP:Hid (K≠0->nO U.zs (U.ps k).root n 0 0=0):=hZ (λh0=>zQ.out.tp (by rw[uW];exact h0));have HDP:Hid (aDu (eT U k n 0 0) (K,X)):=hZ (by rw[<-uW];exact zQ.out.dp);have xW:=hZ uW;clear hat hU uW;simp only[Option.getD_none,Option.isSome_none] at Hw;have HZA:Hid (zA=⟨0,0,false,false⟩):=hZ rfl;rw[HZA.out] at Hw;by_cases h0:K=0
    ·subst h0
     have HN:Hid (iA v k keep (n+1)=U):=hZ (by rw[HST.out,if_pos (by first|rfl|trivial)]);go_wp2_with fail
     refine Hw.out.mono ?_;rintro e w1 ⟨rfl,hb1⟩;have hw2:=hb1.trans ((aD w1 (.cells #[.int .i64 0,.int .i64 0,.bool false,.bool false] 97)).mono hb1.size);have M2:=hZ (lF.out.below hw2);have F2:=hZ (xX.out.trans (aN.of lF.out.hN hw2));clear hb1 hw2;go_wp2_with fail
     refine(rY M2.out zQ.out.zb k HK.out n zQ.out.ge).mono ?_;rintro e w3 ⟨rfl,hb3⟩;rw[xW.out];have hw4:=hb3.trans ((aD w3 (.cells #[.int .i64 0,.int .i64 X] 147)).mono hb3.size);have M4:=hZ (M2.out.below hw4);have F4:=hZ (F2.out.trans (aN.of M2.out.hN hw4));clear hb3 hw4;go_wp2;go_roundw
     case rel=>exact⟨n+1,by omega,by go_num,hZ (by rw[HN.out];exact⟨u',c',cs',M4.out⟩),F4⟩
     case measure=>simp[intOf];omega
    ·have HN:Hid (iA v k keep (n+1)=bO (eT U k n 0 0) K X):=hZ (by rw[HST.out,if_neg h0])
     have aPh:=hZ (HTP.out h0)
     go_wp2_with(first
      |(go_at_call 25
        refine Hw.out.mono ?_;rintro e w1 ⟨rfl,hb1⟩;have hw2:=hb1.trans ((aD w1 (.cells #[.int .i64 0,.int .i64 0,.bool false,.bool false] 97)).mono hb1.size);have M2:=hZ (lF.out.below hw2);have F2:=hZ (xX.out.trans (aN.of lF.out.hN hw2))
        clear hb1 hw2)
      |(go_at_call 68
        refine(rY M2.out zQ.out.zb k HK.out n zQ.out.ge).mono ?_;rintro e w3 ⟨rfl,hb3⟩;rw[xW.out];have hw4:=hb3.trans ((aD w3 (.cells #[.int .i64 K,.int .i64 X] 147)).mono hb3.size);have M4:=hZ (M2.out.below hw4);have F4:=hZ (F2.out.trans (aN.of M2.out.hN hw4));have X4:=hZ (Bx.new w3 147 #[.int .i64 K,.int .i64 X])
        clear hb3 hw4)
      |(go_at_call 69
        refine(xG M4.out zQ.out.zb zQ.out.tl k HK.out n 0 0 aPh.out).mono ?_;rintro e w5 ⟨rfl,⟨u5,c5,cs5,kH⟩,gY⟩;have M5:=hZ kH;have F5:=hZ (F4.out.trans gY);have X5:=hZ (X4.out.bM gY (by decide) (by decide) (by decide));have c0:w5.cell? ⟨w3.heap.size,0,none⟩=some (.int .i64 K):=(X5.out.cell 0).trans rfl;have c1:w5.cell? ⟨w3.heap.size,1,none⟩=some (.int .i64 X):=(X5.out.cell 1).trans rfl;have lx:=X5.out.lt
        clear kH gY)
      |(go_at_call 70
        refine(aGm M5.out HDP.out).mono ?_;rintro e w6 ⟨rfl,rV,Sq⟩;have M6:=hZ rV;have F6:=hZ (F5.out.trans Sq)
        clear rV Sq c0 c1 lx))
     go_roundw
     case rel=>exact⟨n+1,by omega,by go_num,hZ (by rw[HN.out];exact M6.out),F6⟩
     case measure=>simp[intOf];omega
  ·have Cq:n=64:=by omega
   subst Cq;go_wp2
   go_end0
   exact⟨rfl,Dh.out,xX.out⟩
def vV (v:Vm):Nat->Int
 |0=>0
 |k+1=>vV v k+tot (v.ps k).rg
theorem aFi (v:Vm):cK v=vV v 4:=by unfold cK vV vV vV vV vV;omega
theorem aBQ {rs:Array Value} {k:Nat} (hk:k<4) (w:World):(Instr.index 65 (.agg rs) (.int .i64 (k:Int))).run Tryz.prog w=.ok (.agg (rs.extract (k*11) (k*11+11))) w:=by
 have ha:=Tryz.isAgg64;have hz:=Tryz.sizeOf64;unfold Instr.index;simp[go_sem,ha,hz,part];omega
theorem aHj:(Tryz.prog.info? 65).map (·.size)=some 44:=by kernel_rfl
theorem yK:(Tryz.prog.info? 64).map (·.size)=some 11:=by kernel_rfl
def Oq (cs:Array Value):Array Value:=cs.extract 69 113
def pC (cs:Array Value) (k:Nat):Array Value:=(Oq cs).extract (k*11) (k*11+11)
theorem aEb (cs:Array Value):Sub cs 69 (Oq cs):=λi x h=>by
 unfold Oq at h;rw[Array.getElem?_extract] at h;split at h
 ·exact h
 ·cases h
theorem Uk {cs:Array Value} (hs:cs.size=179):(Oq cs).size=44:=by unfold Oq;rw[Array.size_extract,hs];rfl
theorem Y8 {cs:Array Value} (hs:cs.size=179) {k:Nat} (hk:k<4):(pC cs k).size=11:=by unfold pC;rw[Array.size_extract,Uk hs];omega
theorem Gs {cs:Array Value} (hs:cs.size=179) {k i:Nat} (hk:k<4) (hi:i<11):(pC cs k)[i]? =cs[69+k*11+i]? :=by
 unfold pC Oq;rw[Array.getElem?_extract,if_pos (by rw[Array.size_extract,hs];omega),Array.getElem?_extract,if_pos (by rw[hs];omega),Nat.add_assoc]
theorem aB1 {cs:Array Value} (h:cs.all (·.oneCell')=true) (k:Nat):(pC cs k).all (·.oneCell')=true:=by
 rw[Array.all_eq_true] at h⊢;intro i hi;have e:(pC cs k)[i]? =some ((pC cs k)[i]):=Array.getElem?_eq_getElem hi;unfold pC Oq at e;rw[Array.getElem?_extract] at e;split at e
 ·rw[Array.getElem?_extract] at e
  split at e
  ·obtain⟨hl,he⟩:=Array.getElem?_eq_some_iff.1 e
   have:=h _ hl;rw[he] at this;exact this
  ·cases e
 ·cases e
theorem H9 {w:World} {N m r t u c:Nat} {Z:Nat->Prop} {cs:Array Value} {v:Vm} (h:Mo w N Z m r t u c cs v) (hr:∀k,k<4->bF (v.ps k).rg=true):
 Calls Tryz.prog 71 #[.pointer (some ⟨m,0,none⟩)] w λe w'=>e=.returned (.int .i64 (cK v))/\Below w.heap.size w w':=by
 rw[aFi];have HX:=hZ h.X;have HS:=hZ h.V.size;have Yi:=hZ (Uk h.V.size);have HO:=hZ h.V.one;have HV:=hZ h.V.rg;have HR:=hZ hr
 have Hq:Hid (∀k,k<4->0<=tot (v.ps k).rg/\tot (v.ps k).rg<=4096):=hZ (λk hk=>by
  obtain⟨x,_,hx⟩:=h.V.rg k hk;have hl:(v.ps k).rg.length<=64:=by obtain⟨A,n,c,_,e,hn,_⟩:=hx;omega
  have:=Iz (v.ps k).rg λx hx=>(sI (hr k hk)).mem x hx
  omega)
 have hidx:∀k:Nat,k<4->∀w,(Instr.index 65 (.agg (Oq cs)) (.int .i64 (k:Int))).run Tryz.prog w=.ok (.agg (pC cs k)) w:=λk hk w=>aBQ hk w;have aJX:=hZ hidx;have Df:Hid (∀k,(pC cs k).all (·.oneCell')=true):=hZ (aB1 h.V.one);have lm:=h.size;clear h hr hidx;go_enter Tryz.func71,Tryz.ntmps71;go_wp2_with((with_reducible refine qW Tryz.underlying65 rfl aHj m 69 (Oq cs) ?_ ?_ HX.out (aEb cs) Yi.out ?_);rfl;rfl)
 go_loopw [10,3] (λi s wr=>∃k:Nat,k<=4/\i=.int .i64 k/\s=.int .i64 (vV v k)/\0<=vV v k/\vV v k<=4096*k/\Hid (Below w.heap.size w wr)) (λi _ _=>4 - (intOf i).toNat)
 case atStart=>exact⟨0,by omega,rfl,rfl,by unfold vV;omega,by unfold vV;omega,hZ (Below.refl _ _)⟩
 case round=>
  obtain⟨k,hk,rfl,rfl,ht0,ht1,HB⟩:=hrel;by_cases hlt:k<4
  ·have hki:(k:Int)<4:=by omega
   have hi:=aJX.out k hlt wr;have qG:=hZ (Y8 HS.out hlt);obtain⟨x,hx1,hx2⟩:=HV.out k hlt;have HQ:Hid ((pC cs k)[2]? =some x):=hZ (by rw[Gs HS.out hlt (by decide)];exact hx1);obtain⟨t0,t1⟩:=Hq.out k hlt;have HT:Hid (vV v (k+1)=vV v k+tot (v.ps k).rg):=hZ rfl;have hw1:=HB.out.trans ((aD wr (.cells (pC cs k) 64)).mono HB.out.size);have HB1:=hZ hw1;have HCN:=hZ (aC6 (hx2.below hw1) (HR.out k hlt));have hb1:(wr.alloc (.cells (pC cs k) 64)).cell? ⟨wr.heap.size,2,none⟩=some x:=((Bx.new wr 64 (pC cs k)).cell 2).trans HQ.out;obtain⟨A,nn,cc,rfl,_⟩:=hx2;have hTT:vV v k+tot (v.ps k).rg<=100000:=by omega
   generalize tot (v.ps k).rg=T at*;generalize vV v k=S at*;clear hw1 hx1
   go_wp2_with(first
    |((with_reducible refine uM yK (pC cs k) ?_ ?_ rfl qG.out (Df.out k) ?_);rfl;rfl)
    |(go_at_call 78
      refine HCN.out.mono ?_;rintro e w2 ⟨rfl,hb2⟩;have HB2:=hZ (HB1.out.trans (hb2.mono HB1.out.size))
      clear hb2))
   go_roundw
   case rel=>exact⟨k+1,by omega,by go_num,by rw[HT.out],by rw[HT.out];omega,by rw[HT.out];omega,HB2⟩
   case measure=>simp[intOf];omega
  ·have hk4:k=4:=by omega
   subst hk4;go_wp2;go_ret;exact⟨rfl,HB.out⟩
theorem Ll (v:Vm) (K X:Int):(bO v K X).ps=v.ps:=by unfold bO;split;rfl;split<;>rfl
theorem aJr (v:Vm) (K X:Int):(bO v K X).zs=v.zs:=by unfold bO;split;rfl;split<;>rfl
theorem aAL (v:Vm) (k:Nat) (keep:List aC):∀n,(iA v k keep n).ps=v.ps
 |0=>rfl
 |n+1=>by
  rw[Il,<-aAL v k keep n];unfold J9;split
  ·rfl
  ·rw[Ll];rfl
theorem aCN (v:Vm) (f:Int):(lC v f).ps=v.ps/\(lC v f).zs=v.zs:=⟨Ll _ _ _,aJr _ _ _⟩
theorem Wq (v:Vm) (root:Int):∀n,(bT v root n).ps=v.ps/\(bT v root n).zs=v.zs
 |0=>⟨rfl,rfl⟩
 |n+1=>by
  obtain⟨h1,h2⟩:=Wq v root n;rw[Et];unfold Dp;split
  ·rw[(aCN _ _).1,(aCN _ _).2];exact⟨h1,h2⟩
  ·exact⟨h1,h2⟩
theorem Mo.Yv {w:World} {N m r t u c:Nat} {Z:Nat->Prop} {cs:Array Value} {v:Vm} (h:Mo w N Z m r t u c cs v) {k:Nat} (hk:k<4) {pc:Array Value} {p:Vp} (hs:pc.size=11) (h1:pc.all (·.oneCell')=true) (p0:pc[0]? =some (.bool p.live)) (p1:pc[1]? =some (.int .i64 p.root)) (p2:∃x,pc[2]? =some x/\Rt w x p.rg) (p3:Sub pc 3 (kA p.ks)):
 Mo (w.setCells m (69+k*11) pc.toList) N Z m r t u c (rP cs (69+k*11) pc.toList) { v with ps:=fJ v.ps k p } :=by
 have hl:pc.toList.length=11:=by rw[Array.length_toList];exact hs
 have hcs:=h.V.size;have kk:=eU w m (69+k*11) pc.toList;have hin:∀j,j<11->(rP cs (69+k*11) pc.toList)[69+k*11+j]? =pc[j]? :=λj hj=>by
  rw[V5 _ _ _ _ (by rw[hl];omega) (by omega)];simp
 obtain⟨x,hx1,hx2⟩:=p2;have hx3:Rt (w.setCells m (69+k*11) pc.toList) x p.rg:=hx2.keep λb cur hx=>(kk.block b hx.lt (gP hx h.X (by decide))).trans hx;refine h.put (v':= { v with ps:=fJ v.ps k p }) kk.size (h.X.cells pc.toList _) (λb hb hne=>kk.block b hb hne) rfl rfl rfl
  ((h.V' (λb hb hne=>kk.block b hb hne) kk.size).ps_ (by rw[Ka];exact hcs) (Q5 _ _ _ h.V.one λy hy=> ?_) (λj hj=>D5 _ _ _ _ (by omega)) hk (λj hj=>D5 _ _ _ _ (by omega)) ((hin 0 (by omega)).trans p0) ((hin 1 (by omega)).trans p1) ⟨x,(hin 2 (by omega)).trans hx1,hx3⟩ λi y hy=> ?_)
 ·rw[Array.all_eq_true] at h1
  obtain⟨i,hi,rfl⟩:=List.getElem_of_mem hy;exact h1 i (by simpa using hi)
 ·have hi:=sK hy
  rw[show 69+k*11+3+i=69+k*11+(3+i) by omega,hin (3+i) (by omega)];exact p3 i y hy
def zV:Array Value:= #[.bool false,.int .i64 0,.slice none 0 0,.bool false,.int .i64 0,.bool false,.int .i64 0,.bool false,.int .i64 0,.bool false,.int .i64 0]
structure aF7 (v:Vm) (k:Nat):Prop where
 em:∀n,n<64->Q3 (iA v k [] n) k n
 zb:Bytes (kL v k []).zs
 st:∀n:Nat,n<8->aG (kL v k []).zs (v.ps k).root ((8*n:Nat):Int)=3\/(aG (kL v k []).zs (v.ps k).root ((8*n:Nat):Int)=0/\∃f:Nat,aK (kL v k []).zs (v.ps k).root ((8*n:Nat):Int)=f/\f<64/\kR (bT (kL v k []) (v.ps k).root n).rf/\(bT (kL v k []) (v.ps k).root n).rf f≠0)
 rt:∃f:Nat,(v.ps k).root=f/\f<64/\kR (bT (kL v k []) (v.ps k).root 8).rf/\(bT (kL v k []) (v.ps k).root 8).rf f≠0
 tl:(G7 v k).tl.length<=1000
theorem aGk {w:World} {N m r t u c:Nat} {Z:Nat->Prop} {cs:Array Value} {v:Vm} (h:Mo w N Z m r t u c cs v) {k:Nat} (hk:k<4) (hE:aF7 v k):
 Calls Tryz.prog 42 #[.pointer (some ⟨m,0,none⟩),.int .i64 k] w (Gv N Z m r t (jM v k) w):=by
 have zQ:=hZ (J4 h hk (x:=.slice none 0 0) (keep:=[]) ⟨none,0,0,rfl,rfl,by omega,λh=>absurd h (Nat.lt_irrefl 0)⟩ (λn hn _=>hE.em n hn));have HE:=hZ hE;have HK:=hZ hk;have hki:(k:Int)<4:=by omega
 have hk0:(0:Int)<=(k:Int):=by omega
 have M0:Hid ((kL v k []).ps=v.ps):=hZ (aAL v k [] 64);obtain⟨fr,hr1,hr2⟩:=hE.rt;have xX:=hZ hr2;have uK:=hZ hr1;have hfi:(fr:Int)<64:=by omega
 have hf0:(0:Int)<=(fr:Int):=by omega
 clear h hE hr1 hr2 hk;go_enter Tryz.func42,Tryz.ntmps42;go_wp2_with fail
 refine zQ.out.mono ?_;rintro e w1 ⟨rfl,hm1,hf1⟩;have HM1:=hZ hm1;have HF1:=hZ hf1;have lm:m<w1.heap.size:=by obtain⟨_,_,_,hh⟩:=hm1;exact hh.size
 clear hm1 hf1 zQ;obtain⟨E,hEe⟩:∃E,E=kL v k []:=⟨_,rfl⟩;have HEE:=hZ hEe;rw[<-hEe] at HM1 M0;have HST:Hid (∀n:Nat,n<8->aG E.zs (fr:Int) ((8*n:Nat):Int)=3\/(aG E.zs (fr:Int) ((8*n:Nat):Int)=0/\∃f:Nat,aK E.zs (fr:Int) ((8*n:Nat):Int)=f/\f<64/\kR (bT E fr n).rf/\(bT E fr n).rf f≠0)):=hZ (λn hn=>by rw[hEe,<-uK.out];exact HE.out.st n hn);have HR8:Hid (kR (bT E fr 8).rf/\(bT E fr 8).rf fr≠0):=hZ (by rw[hEe,<-uK.out];exact⟨xX.out.2.1,xX.out.2.2⟩);have HZB:Hid (Bytes E.zs):=hZ (by rw[hEe];exact HE.out.zb)
 have HXV:Hid (jM v k= { ({ lC (bT E fr 8) fr with tl:=Fa k (lC (bT E fr 8) fr).tl } :Vm) with ps:=fJ (lC (bT E fr 8) fr).ps k vX }):=hZ (by
  unfold jM G7;rw[<-hEe,uK.out])
 have Hq:Hid ((lC (bT E fr 8) fr).tl.length<=1000):=hZ (by have:=HE.out.tl;unfold G7 at this;rwa[<-hEe,uK.out] at this);have HLP:Hid (∀n,((bT E fr n).ps k).root=fr/\(bT E fr n).zs=E.zs):=hZ (λn=>by obtain⟨q1,q2⟩:=Wq E fr n;rw[q1,q2,M0.out,uK.out];exact⟨rfl,rfl⟩);clear hEe;go_wp2;go_loopw [5] (λi wr=>∃n:Nat,n<=8/\i=.int .i64 ((8*n:Nat):Int)/\Hid (Mr wr N Z m r t (bT E fr n))/\Hid (aN N w wr)) (λi _=>64 - (intOf i).toNat)
 case atStart=>exact⟨0,by omega,rfl,HM1,HF1⟩
 case round=>
  obtain⟨n,hn,rfl,Dh,HFW⟩:=hrel;obtain⟨u',c',cs',hM⟩:=Dh.out;have lF:=hZ hM;have c0:=hM.uE;have c1:wr.cell? ⟨m,69+k*11+1,none⟩=some (.int .i64 fr):=by rw[<-(HLP.out n).1];exact hM.rE HK.out
  have lm:=hM.size;obtain⟨pg,Cy⟩:∃pg:Nat,pg=8*n:=⟨_,rfl⟩;rw[<-Cy];have HPG:=hZ Cy;by_cases hlt:n<8
  ·have aFv:pg<64:=by omega
   have hpi:(pg:Int)<64:=by omega
   have hp0:(0:Int)<=(pg:Int):=by omega
   have iZ:=hZ (λW (hW:Below wr.heap.size wr W)=>wY (some ⟨r,0,none⟩) 4096 4096 E.zs fr pg W _ (((HLP.out n).2▸hM.zY).below hW) hW.size HZB.out (by decide));have hst:=HST.out n hlt;rw[<-Cy] at hst;have uH:Hid (bT E fr (n+1)=if aG E.zs fr pg=0 then lC (bT E fr n) (aK E.zs fr pg) else bT E fr n):=hZ (by rw[Et];unfold Dp;rw[(HLP.out n).2,<-Cy]);clear hM Cy;obtain⟨LV,hLV⟩:∃LV,LV=aK E.zs fr pg:=⟨_,rfl⟩;rw[<-hLV] at hst iZ uH;clear hLV;rcases hst with h3|⟨h0,f,hf1,hf2,hf3,Sr⟩
   ·rw[h3] at iZ uH
    have HN:Hid (bT E fr (n+1)=bT E fr n):=hZ (by rw[uH.out,if_neg (by decide)]);clear h3;go_wp2;have gc:∀(d:Nat) (os:Array Obj) (b o:Nat),b<wr.heap.size->(grow (redrawn wr d) os).cell? ⟨b,o,none⟩=wr.cell? ⟨b,o,none⟩:=λd os b o h=>(below_regrown _ d os).cell (p:=⟨b,o,none⟩) h;refine fK [Sp.call 9 (.tuple #[.int .i64 LV,.int .i64 3])] (by kernel_rfl) (by kernel_rfl) ?_;intro V hV;have e9:V 9=.tuple #[.int .i64 LV,.int .i64 3]:=hV 9
    (refine rq rfl rfl ?_;go_big_quiet_step(fail);refine wpQuiet_nil ?_)
    refine rn ⟨m,0,none⟩ (by kernel_rfl) rfl rfl ?_;go_big_quiet_step(fail);refine wpQuiet_nil ?_;iterate 3 (refine rq rfl rfl ?_;go_big_quiet_step(fail);refine wpQuiet_nil ?_)
    refine rn ⟨m,69+k*11,none⟩ (by kernel_rfl) rfl rfl ?_;go_big_quiet_step(fail);refine wpQuiet_nil ?_;iterate 3 (refine rq rfl rfl ?_;go_big_quiet_step(fail);refine wpQuiet_nil ?_)
    refine mQ (Sp.call 9 _) (by kernel_rfl) rfl (λw' hb hf=> ?_) ?_
    ·refine iB (f:=81) (args:= #[.slice (some ⟨r,0,none⟩) 4096 4096,.int .i64 fr,.int .i64 pg]) ?_ (iZ.out w' hb)
     go_simp
    go_big_quiet_step(fail);refine wpQuiet_nil ?_;simp only[e9];iterate 5 (refine rq rfl rfl ?_;go_big_quiet_step(fail);refine wpQuiet_nil ?_)
    refine rend ?_;intro w3 hb3 hf;have M3:=hZ (lF.out.below hb3);have F3:=hZ (HFW.out.trans (aN.of lF.out.hN hb3));clear hf hV gc e9 hb3 c0 c1 lm;go_wp2;go_roundw
    case rel=>exact⟨n+1,by omega,by rw[HPG.out];go_num,hZ (by rw[HN.out];exact⟨u',c',cs',M3.out⟩),F3⟩
    case measure=>simp[intOf];omega
   ·rw[h0] at iZ uH
    obtain rfl:LV=f:=hf1;have HN:Hid (bT E fr (n+1)=bO { bT E fr n with fx:=dV (bT E fr n).fx f false } 1 f):=hZ (by rw[uH.out,if_pos rfl];unfold lC;rw[Int.toNat_natCast]);have Js:=hZ hf2;have HF3:=hZ hf3;have HF4:=hZ Sr;have aPJ:(f:Int)<64:=by omega
    have aPK:(0:Int)<=(f:Int):=by omega
    clear h0 hf2 hf3 Sr;go_wp2;have gc:∀(d:Nat) (os:Array Obj) (b o:Nat),b<wr.heap.size->(grow (redrawn wr d) os).cell? ⟨b,o,none⟩=wr.cell? ⟨b,o,none⟩:=λd os b o h=>(below_regrown _ d os).cell (p:=⟨b,o,none⟩) h;refine fK [Sp.call 9 (.tuple #[.int .i64 f,.int .i64 0])] (by kernel_rfl) (by kernel_rfl) ?_;intro V hV;have e9:V 9=.tuple #[.int .i64 f,.int .i64 0]:=hV 9
    (refine rq rfl rfl ?_;go_big_quiet_step(fail);refine wpQuiet_nil ?_)
    refine rn ⟨m,0,none⟩ (by kernel_rfl) rfl rfl ?_;go_big_quiet_step(fail);refine wpQuiet_nil ?_;iterate 3 (refine rq rfl rfl ?_;go_big_quiet_step(fail);refine wpQuiet_nil ?_)
    refine rn ⟨m,69+k*11,none⟩ (by kernel_rfl) rfl rfl ?_;go_big_quiet_step(fail);refine wpQuiet_nil ?_;iterate 3 (refine rq rfl rfl ?_;go_big_quiet_step(fail);refine wpQuiet_nil ?_)
    refine mQ (Sp.call 9 _) (by kernel_rfl) rfl (λw' hb hf=> ?_) ?_
    ·refine iB (f:=81) (args:= #[.slice (some ⟨r,0,none⟩) 4096 4096,.int .i64 fr,.int .i64 pg]) ?_ (iZ.out w' hb)
     go_simp
    go_big_quiet_step(fail);refine wpQuiet_nil ?_;simp only[e9];iterate 5 (refine rq rfl rfl ?_;go_big_quiet_step(fail);refine wpQuiet_nil ?_)
    refine rend ?_;intro w3 hb3 hf;have M3:=hZ (lF.out.below hb3);have F3:=hZ (HFW.out.trans (aN.of lF.out.hN hb3));have cf:=M3.out.Dw Js.out;have ff:=M3.out.free (114+f);have lm3:=M3.out.size;have M4:=hZ (M3.out.Bj Js.out false);have F4:=hZ (F3.out.trans (M3.out.kZ (114+f) (.bool false)));clear hf hV gc e9 hb3 c0 c1 lm
    go_wp2_with(go_at_call 70
                refine(x8 M4.out HF3.out Js.out HF4.out).mono ?_;rintro e w5 ⟨rfl,kH,gY⟩;have M5:=hZ kH;have F5:=hZ (F4.out.trans gY)
                clear kH gY cf ff lm3)
    go_roundw
    case rel=>exact⟨n+1,by omega,by rw[HPG.out];go_num,hZ (by rw[HN.out];exact M5.out),F5⟩
    case measure=>simp[intOf];omega
  ·have hn8:n=8:=by omega
   subst hn8;have aFv:pg=64:=by omega
   subst aFv;clear hM Cy;go_wp2;have gc:∀(d:Nat) (os:Array Obj) (b o:Nat),b<wr.heap.size->(grow (redrawn wr d) os).cell? ⟨b,o,none⟩=wr.cell? ⟨b,o,none⟩:=λd os b o h=>(below_regrown _ d os).cell (p:=⟨b,o,none⟩) h;refine kD 8 [] (by kernel_rfl) (by kernel_rfl) (by kernel_rfl) ?_;intro V hV;simp only[List.take_succ_cons,List.take_zero,List.drop_succ_cons,List.drop_zero];iterate 2 (refine rq rfl rfl ?_;go_big_quiet_step(fail);refine wpQuiet_nil ?_)
   refine rn ⟨m,69+k*11,none⟩ (by kernel_rfl) rfl rfl ?_;go_big_quiet_step(fail);refine wpQuiet_nil ?_;iterate 2 (refine rq rfl rfl ?_;go_big_quiet_step(fail);refine wpQuiet_nil ?_)
   refine rn ⟨m,0,none⟩ (by kernel_rfl) rfl rfl ?_;go_big_quiet_step(fail);refine wpQuiet_nil ?_;iterate 2 (refine rq rfl rfl ?_;go_big_quiet_step(fail);refine wpQuiet_nil ?_)
   refine rend ?_;intro w3 hb3 hf;have M3:=hZ (lF.out.below hb3);have F3:=hZ (HFW.out.trans (aN.of lF.out.hN hb3));have cf:=M3.out.Dw xX.out.1;have ff:=M3.out.free (114+fr);have lm3:=M3.out.size;have c13:w3.cell? ⟨m,69+k*11+1,none⟩=some (.int .i64 fr):=by rw[<-(HLP.out 8).1];exact M3.out.rE HK.out
   have M4:=hZ (M3.out.Bj xX.out.1 false);have F4:=hZ (F3.out.trans (M3.out.kZ (114+fr) (.bool false)));have c14:(w3.setCell ⟨m,114+fr,none⟩ (.bool false)).cell? ⟨m,69+k*11+1,none⟩=some (.int .i64 fr):=by rw[<-(HLP.out 8).1];exact M4.out.rE HK.out
   have Nb:Hid (lC (bT E fr 8) fr=bO { bT E fr 8 with fx:=dV (bT E fr 8).fx fr false } 1 fr):=hZ (by unfold lC;rw[Int.toNat_natCast]);clear hf hV gc hb3 c0 c1 lm
   go_wp2_with(go_at_call 70
               refine(x8 M4.out HR8.out.1 xX.out.1 HR8.out.2).mono ?_;rintro e w5 ⟨rfl,⟨u5,c5,cs5,kH⟩,gY⟩;rw[<-Nb.out] at kH;have M5:=hZ kH;have F5:=hZ (F4.out.trans gY);have lm5:=kH.size
               clear kH gY cf ff lm3 c13 c14)
   refine(aDN (k:Int) (lC (bT E fr 8) fr).tl m 68 w5 M5.out.tl Hq.out).mono ?_;rintro e w6 ⟨rfl,ho,hp⟩;obtain⟨Da,h6⟩:∃Da,Mo w6 N Z m r t u5 c5 Da { lC (bT E fr 8) fr with tl:=Fa k (lC (bT E fr 8) fr).tl } :=by
    obtain⟨x,o1,o2,o3,o4⟩:=ho;obtain⟨A,c',rfl,_,_,o5⟩:=o4.row qE;exact M5.out.vS hp o1 o5 (λb o s e hl=>I9 o4 b o s e hl)
   have M6:=hZ h6;have F6:=hZ (F5.out.trans (hp.bM M5.out.X M5.out.nm M5.out.hN));have HS6:=hZ h6.V.size;have lm6:=h6.size;have M7:=hZ (h6.Yv HK.out (pc:=zV) (p:=vX) rfl (by simp[zV,Value.oneCell']) rfl rfl ⟨_,rfl,none,0,0,rfl,rfl,by omega,λh=>absurd h (Nat.lt_irrefl 0)⟩ (λi x hx=>by have:=sK hx;rw[<-hx];rcases i with _|_|_|_|_|_|_|_|i;all_goals (first|rfl|omega)));have F7:=hZ (F6.out.trans (h6.qU (eU _ _ (69+k*11) zV.toList)));have HZ1:Hid (zV.all (·.oneCell')=true):=hZ (by simp[zV,Value.oneCell']);clear h6 ho hp lm5;obtain⟨w7,hw7⟩:∃w7,w7=w6.setCells m (69+k*11) zV.toList:=⟨_,rfl⟩;have HW7:=hZ hw7;rw[<-hw7] at M7 F7;clear hw7;go_wp2_with((with_reducible refine stM yK m (69+k*11) zV ?_ ?_ M6.out.X ?_ rfl HZ1.out ?_);rfl;rfl;exact(by rw[HS6.out];have:=HK.out;omega);rw[<-HW7.out])
   go_end0
   refine⟨rfl,⟨u5,c5,rP Da (69+k*11) zV.toList,?_⟩,F7.out⟩;rw[HXV.out];exact M7.out
def Ga (N:Nat) (Z:Nat->Prop) (m r t:Nat) (x:Vm×bX) (w:World) (e:Ending) (w':World):Prop:=e=.returned x.2.v/\Mr w' N Z m r t x.1/\aN N w w'
theorem Mo.aFl {w:World} {N m r t u c g:Nat} {Z:Nat->Prop} {cs z:Array Value} {v:Vm} {T:TypeId} (h:Mo w N Z m r t u c cs v) (hz:Z g) (hX:Bx w g T z) (h1:T≠69) (h2:T≠5) (h3:T≠4) (h4:T≠99) (i:Nat) (x:Value):Mo (w.setCell ⟨g,i,none⟩ x) N Z m r t u c cs v:=
 h.other hz hX h1 h2 h3 h4 (λb hb=>gW w g i x b hb) (by simp[World.setCell])
def aNE (w:World) (g:Nat) (a b c d:Value):World:=(((w.setCell ⟨g,0,none⟩ a).setCell ⟨g,1,none⟩ b).setCell ⟨g,2,none⟩ c).setCell ⟨g,3,none⟩ d
theorem Zc {w w3:World} {N m r t u c g:Nat} {Z:Nat->Prop} {cs z:Array Value} {v:Vm} (hM:Mo w3 N Z m r t u c cs v) (hz:Z g) (hX:Bx w3 g 35 z) (hF:aN N w w3) (hN:N<=w.heap.size) (hg:w.heap.size<=g) (x y a b:Value):
 Mo (aNE w3 g x y a b) N Z m r t u c cs v/\aN N w (aNE w3 g x y a b):=
 ⟨((((hM.aFl hz hX (by decide) (by decide) (by decide) (by decide) 0 x).aFl hz (hX.set 0 x) (by decide) (by decide) (by decide) (by decide) 1 y).aFl hz ((hX.set 0 x).set 1 y) (by decide) (by decide) (by decide) (by decide) 2 a).aFl hz (((hX.set 0 x).set 1 y).set 2 a) (by decide) (by decide) (by decide) (by decide) 3 b),(((hF.loc hN hg 0 x).loc hN hg 1 y).loc hN hg 2 a).loc hN hg 3 b⟩
def qX (v:Vm):Nat->Int
 |0=> -1
 |k+1=>if(v.ps k).live=false/\qX v k<0 then(k:Int) else qX v k
theorem aMP (v:Vm):qX v 4=if cZ v=4 then -1 else(cZ v:Int):=by
 unfold cZ qX qX qX qX qX;cases(v.ps 0).live<;>cases(v.ps 1).live<;>cases(v.ps 2).live<;>cases(v.ps 3).live<;>simp
theorem Ut (v:Vm):∀k, -1<=qX v k/\qX v k<k+1
 |0=>by unfold qX;omega
 |k+1=>by
  have:=Ut v k;unfold qX;split<;>omega
def aFX (v:Vm) (x:Int×Int):Prop:=(x.1=1/\∃f:Nat,x.2=f/\f<64/\kR v.rf/\v.rf f≠0/\v.rf f<4)\/(x.1=2/\∃s,uQ v.dv x.2 s/\s.r<=3)
structure Yl (u:Vm) (k c n:Nat):Prop where
 zb:Bytes u.zs
 ge:lI u.zs (u.ps k).root n=0
 sh:(gF u k n).1≠0->aFX u (gF u k n)
 st:(gF u k n).1≠0->xD (kE u (gF u k n).1 (gF u k n).2) c n (gF u k n).1 (gF u k n).2
structure aF6 (v:Vm) (k:Nat):Prop where
 tk:∃f,vE v f
 st:∀n,n<64->Yl (iP (iN v k (cZ v)) k (cZ v) n) k (cZ v) n
theorem aES {w:World} {N m r t u c:Nat} {Z:Nat->Prop} {cs:Array Value} {v:Vm} (h:Mo w N Z m r t u c cs v) {K X:Int} (hD:aFX v (K,X)):
 Calls Tryz.prog 79 #[.pointer (some ⟨m,0,none⟩),.agg #[.int .i64 K,.int .i64 X]] w (Gv N Z m r t (kE v K X) w):=by
 rcases hD with⟨h1,f,hf,hl,hr,h0,h4⟩|⟨h2,s,hs,h3⟩
 ·obtain rfl:K=1:=h1
  obtain rfl:X=f:=hf;exact aDw h hr hl h0 h4
 ·obtain rfl:K=2:=h2
  exact aER h X hs h3
theorem aH2 {w:World} {N m r t u c:Nat} {Z:Nat->Prop} {cs:Array Value} {v:Vm} (h:Mo w N Z m r t u c cs v) {k:Nat} (hk:k<4) (page:Int) {K X:Int} (hK:(K=1/\∃f:Nat,X=f/\f<64)\/K=2) (hS:xD v k page K X):
 Calls Tryz.prog 80 #[.pointer (some ⟨m,0,none⟩),.int .i64 k,.int .i64 page,.agg #[.int .i64 K,.int .i64 X]] w (Gv N Z m r t (gI v k page K X) w):=by
 rcases hK with⟨rfl,f,rfl,hf⟩|rfl
 ·exact Gh h hk page hf hS
 ·rcases hS.lf with h0|⟨h3,_⟩
  ·exact aKA h hk page X hS h0
  ·exact aKz h hk page X hS h3
theorem aEy (v:Vm) (K X:Int) (b:Bool):(gN v K X b).ps=v.ps:=(Jf v K X b).2
theorem aD5 (v:Vm) (k:Nat) (page K X:Int):(gI v k page K X).ps=v.ps:=by
 unfold gI;rw[aEy];show(bG (gN v K X true) k page).ps=v.ps;rw[Bq,aEy]
theorem aGj {w:World} {N m r t u c:Nat} {Z:Nat->Prop} {cs:Array Value} {v:Vm} (h:Mo w N Z m r t u c cs v) {k:Nat} (hk:k<4) (hr:∀k,k<4->bF (v.ps k).rg=true) (hF:¬(cZ v=4\/64<cK v+tot (v.ps k).rg)->aF6 v k):
 Calls Tryz.prog 41 #[.pointer (some ⟨m,0,none⟩),.int .i64 k] w (Ga N Z m r t (lD v k) w):=by
 have hw0:=aD w (.cells #[.int .i64 0,.int .i64 0,.int .i64 0,.int .i64 0] 35);have HA0:=hZ (Bx.new w 35 #[.int .i64 0,.int .i64 0,.int .i64 0,.int .i64 0]);have h1:Mo (w.alloc (.cells #[.int .i64 0,.int .i64 0,.int .i64 0,.int .i64 0] 35)) N (λb=>Z b\/b=w.heap.size) m r t u c cs v:=h.fresh hw0 (nR _) (by simp);have lT:=hZ (aN.of h.hN hw0);obtain⟨w0,hw⟩:∃w0,w0=w.alloc (.cells #[.int .i64 0,.int .i64 0,.int .i64 0,.int .i64 0] 35):=⟨_,rfl⟩;rw[<-hw] at h1 hw0 HA0 lT;have HM:=hZ h1;have HB0:=hZ hw0;have HX:=hZ h1.X;have HS:=hZ h1.V.size;have Yi:=hZ (Uk h1.V.size);have Df:Hid (∀k,(pC cs k).all (·.oneCell')=true):=hZ (aB1 h1.V.one);have HPZ:Hid (∀k,k<4->(pC cs k).size=11):=hZ (λk hk=>Y8 h1.V.size hk);have HLV:Hid (∀k,k<4->(pC cs k)[0]? =some (.bool (v.ps k).live)):=hZ (λk hk=>by rw[Gs h1.V.size hk (by decide)];exact h1.V.live k hk);have aJX:Hid (∀k:Nat,k<4->∀w,(Instr.index 65 (.agg (Oq cs)) (.int .i64 (k:Int))).run Tryz.prog w=.ok (.agg (pC cs k)) w):=hZ (λk hk w=>aBQ hk w);have HK:=hZ hk;have HN0:=hZ h.hN;have HR:=hZ hr;have Ti:=hZ hF;have hki:(k:Int)<4:=by omega
 have hk0:(0:Int)<=(k:Int):=by omega
 have lm:=h1.size;clear h h1 hk hr hF hw0;go_enter Tryz.func41,Tryz.ntmps41;go_wp2_with((with_reducible refine qW Tryz.underlying65 rfl aHj m 69 (Oq cs) ?_ ?_ (hw▸HX.out) (aEb cs) Yi.out ?_);rfl;rfl)
 rw[<-hw];clear hw;go_loopw [5,15] (λch i wr=>∃j:Nat,j<=4/\i=.int .i64 j/\ch=.int .i64 (qX v j)/\Hid (Below w0.heap.size w0 wr)) (λ_ i _=>4 - (intOf i).toNat)
 case atStart=>exact⟨0,by omega,rfl,rfl,hZ (Below.refl _ _)⟩
 case round=>
  obtain⟨j,hj,rfl,rfl,HB⟩:=hrel;by_cases hlt:j<4
  ·have hji:(j:Int)<4:=by omega
   have hi:=aJX.out j hlt wr;have qG:=hZ (HPZ.out j hlt);have HC:Hid (qX v (j+1)=if(v.ps j).live=false/\qX v j<0 then(j:Int) else qX v j):=hZ rfl;have hw1:=HB.out.trans ((aD wr (.cells (pC cs j) 64)).mono HB.out.size);have HB1:=hZ hw1;have hb1:(wr.alloc (.cells (pC cs j) 64)).cell? ⟨wr.heap.size,0,none⟩=some (.bool (v.ps j).live):=((Bx.new wr 64 (pC cs j)).cell 0).trans (HLV.out j hlt);obtain⟨r0,r1⟩:=Ut v j;generalize qX v j=S at*;generalize(v.ps j).live=L at*;clear hw1;cases L with
   |true=>
    have HN:Hid (qX v (j+1)=S):=hZ (by rw[HC.out,if_neg (by simp)]);go_wp2_with((with_reducible refine uM yK (pC cs j) ?_ ?_ rfl qG.out (Df.out j) ?_);rfl;rfl)
    go_roundw
    case rel=>exact⟨j+1,by omega,by go_num,by rw[HN.out],HB1⟩
    case measure=>simp[intOf];omega
   |false=>
    by_cases hS:S<0
    ·have HN:Hid (qX v (j+1)=j):=hZ (by rw[HC.out,if_pos ⟨rfl,hS⟩])
     have hd:decide (S<0)=true:=decide_eq_true hS;go_wp2_with((with_reducible refine uM yK (pC cs j) ?_ ?_ rfl qG.out (Df.out j) ?_);rfl;rfl)
     go_roundw
     case rel=>exact⟨j+1,by omega,by go_num,by rw[HN.out],HB1⟩
     case measure=>simp[intOf];omega
    ·have HN:Hid (qX v (j+1)=S):=hZ (by rw[HC.out,if_neg (λh=>hS h.2)])
     have hd:decide (S<0)=false:=decide_eq_false hS;go_wp2_with((with_reducible refine uM yK (pC cs j) ?_ ?_ rfl qG.out (Df.out j) ?_);rfl;rfl)
     go_roundw
     case rel=>exact⟨j+1,by omega,by go_num,by rw[HN.out],HB1⟩
     case measure=>simp[intOf];omega
  ·have hj4:j=4:=by omega
   subst hj4;have MB:=hZ (HM.out.below HB.out);have Yg:=hZ (HPZ.out k HK.out);have HXB:=hZ MB.out.X
   have aJR:Hid (Sub cs (69+k*11) (pC cs k)):=hZ (λi x hx=>by
    have hi:i<11:=by rw[<-HPZ.out k HK.out];exact(Array.getElem?_eq_some_iff.1 hx).1
    rw[<-Gs HS.out HK.out hi];exact hx)
   have hw2:=aD wr (.cells (pC cs k) 64);have M2:=hZ (MB.out.below hw2);have F2:=hZ ((lT.out.trans (aN.of HM.out.hN HB.out)).trans (aN.of MB.out.hN hw2));have A2:=hZ ((HA0.out.below HB.out).below hw2);have P2:=hZ (Bx.new wr 64 (pC cs k));obtain⟨b8,zK⟩:∃b8,b8=wr.heap.size:=⟨_,rfl⟩;have lmr:=MB.out.size
   go_wp2_with(first
    |((with_reducible refine qW Tryz.underlying64 rfl yK m (69+k*11) (pC cs k) ?_ ?_ HXB.out aJR.out Yg.out ?_);rfl;rfl)
    |((with_reducible refine uM yK (pC cs k) ?_ ?_ rfl Yg.out (Df.out k) ?_);rfl;rfl))
   simp only[Act.put];have hsl:=aMP v;obtain⟨w2,aCr⟩:∃w2,w2=wr.alloc (.cells (pC cs k) 64):=⟨_,rfl⟩;rw[<-aCr] at M2 F2 A2 P2 hw2⊢;rw[<-zK] at P2⊢;have HBB:Hid (Below w0.heap.size w0 w2):=hZ (HB.out.trans (hw2.mono HB.out.size));clear aCr hw2 zK lmr lm;by_cases hc4:cZ v=4
   ·rw[if_pos hc4] at hsl
    rw[hsl];have HE:Hid (lD v k=(v,aB 4)):=hZ (by unfold lD;rw[if_pos (.inl hc4)]);clear hc4 hsl;have gc:∀(d:Nat) (os:Array Obj) (b o:Nat),b<w2.heap.size->(grow (redrawn w2 d) os).cell? ⟨b,o,none⟩=w2.cell? ⟨b,o,none⟩:=λd os b o h=>(below_regrown _ d os).cell (p:=⟨b,o,none⟩) h;refine fK [] (by kernel_rfl) (by kernel_rfl) ?_;intro V hV;iterate 3 (refine rq rfl rfl ?_;go_big_quiet_step(fail);refine wpQuiet_nil ?_)
    iterate 7 (refine rk (by kernel_rfl) ?_;go_big_quiet_step(fail);refine wpQuiet_nil ?_)
    (refine rq rfl rfl ?_;go_big_quiet_step(fail);refine wpQuiet_nil ?_)
    refine rend ?_;intro w3 hb3 hf;have M3:=hZ (M2.out.below hb3);have F3:=hZ (F2.out.trans (aN.of M2.out.hN hb3));have A3:=hZ (A2.out.below hb3);clear hf hV gc hb3;have a0:w3.cell? ⟨w.heap.size,0,none⟩=some (.int .i64 0):=(A3.out.cell 0).trans rfl;have a1:w3.cell? ⟨w.heap.size,1,none⟩=some (.int .i64 0):=(A3.out.cell 1).trans rfl;have a2:w3.cell? ⟨w.heap.size,2,none⟩=some (.int .i64 0):=(A3.out.cell 2).trans rfl;have a3:w3.cell? ⟨w.heap.size,3,none⟩=some (.int .i64 0):=(A3.out.cell 3).trans rfl;have f0:=A3.out.free 0;have f1:=A3.out.free 1;have f2:=A3.out.free 2;have f3:=A3.out.free 3;have la:=A3.out.lt;go_wp2
    exact bodyPost_ret (v:=.agg #[.int .i64 4,.int .i64 0,.int .i64 0,.int .i64 0]) (by simp[results,Tryz.results41,go_sem,a0,a1,a2,a3,la]) rfl (by
     obtain⟨q1,q2⟩:=Zc M3.out (.inr rfl) A3.out F3.out HN0.out (nR _) (.int .i64 4) (.int .i64 0) (.int .i64 0) (.int .i64 0);rw[HE.out]
     exact⟨rfl,⟨u,c,cs,q1.less λb hz=>.inl hz⟩,q2⟩)
   ·rw[if_neg hc4] at hsl
    rw[hsl];obtain⟨ch,hch⟩:∃ch,ch=cZ v:=⟨_,rfl⟩;have hc3:ch<4:=by
     have:=(Ut v 4).2;rw[hsl,<-hch] at this;have h4:ch<=4:=by rw[hch];unfold cZ;split<;>(try split)<;>(try split)<;>(try split)<;>omega
     rw[<-hch] at hc4;omega
    rw[<-hch];have Ch:=hZ hch;have HC3:=hZ hc3;have hci:(ch:Int)<4:=by omega
    have hc0:(0:Int)<=(ch:Int):=by omega
    have hdc:decide ((ch:Int)<0)=false:=decide_eq_false (by omega);clear hc4 hsl hch;obtain⟨x,hx1,hx2⟩:=HM.out.V.rg k HK.out;have HPX:Hid ((pC cs k)[2]? =some x):=hZ (by rw[Gs HS.out HK.out (by decide)];exact hx1);have HRX:=hZ (hx2.below HBB.out);have hpx:w2.cell? ⟨b8,2,none⟩=some x:=(P2.out.cell 2).trans HPX.out;have lb8:=P2.out.lt
    have Qv:Hid (Sub (pC cs k) 3 (kA (v.ps k).ks)):=hZ (λi y hy=>by
     have hi:=sK hy;rw[Gs HS.out HK.out (by omega),<-Nat.add_assoc]
     exact HM.out.V.ks k HK.out i y hy)
    obtain⟨A,nn,cc,rfl,hxl⟩:=hx2;have HMP:=hZ (λW (hW:Below w2.heap.size w2 W)=>H9 (M2.out.below hW) HR.out);have HCT:=hZ (λW (hW:Below w2.heap.size w2 W)=>aC6 (HRX.out.below hW) (HR.out k HK.out));have htl:=Iz (v.ps k).rg λx hx=>(sI (HR.out k HK.out)).mem x hx;have Mi:0<=cK v/\cK v<=20000:=by
     have q:∀j,j<4->0<=tot (v.ps j).rg/\tot (v.ps j).rg<=4096:=λj hj=>by
      obtain⟨x,_,hx⟩:=HM.out.V.rg j hj;have hl:(v.ps j).rg.length<=64:=by obtain⟨A,n,c,_,e,hn,_⟩:=hx;omega
      have:=Iz (v.ps j).rg λx hx=>(sI (HR.out j hj)).mem x hx;omega
     have q0:=q 0 (by omega);have q1:=q 1 (by omega);have q2:=q 2 (by omega);have q3:=q 3 (by omega);unfold cK;omega
    have htb:tot (v.ps k).rg<=10000:=by omega
    have HE:Hid (lD v k=if 64<cK v+tot (v.ps k).rg then(v,aB 4) else(iP (iN v k ch) k ch 64,⟨0,(ch:Int),0,0⟩)):=hZ (by
     have h4:¬cZ v=4:=by rw[<-Ch.out];have:=HC3.out;omega
     unfold lD;rw[<-Ch.out] at h4⊢;by_cases hq:64<cK v+tot (v.ps k).rg
     ·rw[if_pos (.inr hq),if_pos hq]
     ·rw[if_neg (by rintro(h|h);exact h4 h;exact hq h),if_neg hq])
    have aJ2:Hid (¬64<cK v+tot (v.ps k).rg->aF6 v k):=hZ (λhq=>Ti.out (by rintro(h|h);(rw[<-Ch.out] at h;have:=HC3.out;omega);exact hq h));have aOx:=htl.1;have aOI:=Mi.1;have aOH:=Mi.2;obtain⟨MP,hMP⟩:∃MP,MP=cK v:=⟨_,rfl⟩;obtain⟨TP,hTP⟩:∃TP,TP=tot (v.ps k).rg:=⟨_,rfl⟩;rw[<-hMP] at HMP HE aJ2 aOI aOH;rw[<-hTP] at HCT HE aJ2 aOx htb;have hwr:IntKind.i64.wrap (MP+TP)=MP+TP:=by rw[IntKind.wrap_i64];omega
    clear hxl hx1 htl Mi hMP hTP;have gc:∀(d:Nat) (os:Array Obj) (b o:Nat),b<w2.heap.size->(grow (redrawn w2 d) os).cell? ⟨b,o,none⟩=w2.cell? ⟨b,o,none⟩:=λd os b o h=>(below_regrown _ d os).cell (p:=⟨b,o,none⟩) h;refine fK [Sp.call 4 (.int .i64 MP),Sp.call 7 (.int .i64 TP)] (by kernel_rfl) (by kernel_rfl) ?_;intro V hV;have e4:V 4=.int .i64 MP:=hV 4;have e7:V 7=.int .i64 TP:=hV 7;iterate 4 (refine rq rfl rfl ?_;go_big_quiet_step(fail);refine wpQuiet_nil ?_)
    refine mQ (Sp.call 4 _) (by kernel_rfl) rfl (λw' hb hf=> ?_) ?_
    ·refine iB (f:=71) (args:= #[.pointer (some ⟨m,0,none⟩)]) ?_ (HMP.out w' hb)
     go_simp
    go_big_quiet_step(fail);refine wpQuiet_nil ?_;simp only[e4];iterate 2 (refine rq rfl rfl ?_;go_big_quiet_step(fail);refine wpQuiet_nil ?_)
    refine mQ (Sp.call 7 _) (by kernel_rfl) rfl (λw' hb hf=> ?_) ?_
    ·refine iB (f:=78) (args:= #[.slice A nn cc]) ?_ (HCT.out w' hb)
     go_simp
    go_big_quiet_step(fail);refine wpQuiet_nil ?_;simp only[e7];iterate 3 (refine rq rfl rfl ?_;go_big_quiet_step(fail);refine wpQuiet_nil ?_)
    refine rend ?_;intro w3 hb3 hf;have M3:=hZ (M2.out.below hb3);have F3:=hZ (F2.out.trans (aN.of M2.out.hN hb3));have A3:=hZ (A2.out.below hb3);have P3:=hZ (P2.out.below hb3);have R3:=hZ (HRX.out.below hb3);clear hf hV gc hb3 e4 e7 hdc hpx lb8;by_cases hq:64<MP+TP
    ·have hE2:=HE.out
     rw[if_pos hq] at hE2;have HE2:=hZ hE2;clear hE2;have a0:w3.cell? ⟨w.heap.size,0,none⟩=some (.int .i64 0):=(A3.out.cell 0).trans rfl;have a1:w3.cell? ⟨w.heap.size,1,none⟩=some (.int .i64 0):=(A3.out.cell 1).trans rfl;have a2:w3.cell? ⟨w.heap.size,2,none⟩=some (.int .i64 0):=(A3.out.cell 2).trans rfl;have a3:w3.cell? ⟨w.heap.size,3,none⟩=some (.int .i64 0):=(A3.out.cell 3).trans rfl;have f0:=A3.out.free 0;have f1:=A3.out.free 1;have f2:=A3.out.free 2;have f3:=A3.out.free 3;have la:=A3.out.lt;go_wp2
     exact bodyPost_ret (v:=.agg #[.int .i64 4,.int .i64 0,.int .i64 0,.int .i64 0]) (by simp[results,Tryz.results41,go_sem,a0,a1,a2,a3,la]) rfl (by
      obtain⟨q1,q2⟩:=Zc M3.out (.inr rfl) A3.out F3.out HN0.out (nR _) (.int .i64 4) (.int .i64 0) (.int .i64 0) (.int .i64 0);rw[HE2.out]
      exact⟨rfl,⟨u,c,cs,q1.less λb hz=>.inl hz⟩,q2⟩)
    ·have hE2:=HE.out
     rw[if_neg hq] at hE2;have HE2:=hZ hE2;have HFO:=hZ (aJ2.out hq);clear hE2;go_wp2_with fail
     obtain⟨f2,Su⟩:=HFO.out.tk;have oN:=hZ Su;obtain⟨KS,hKS⟩:∃KS,KS=(v.ps k).ks:=⟨_,rfl⟩;rw[<-hKS] at Qv;have hC0:CM N (λb=>Z b\/b=w.heap.size) m r t v.ps w3 { w3 with drawn:=w3.drawn+1 } :=CM.below (Mr.cm ⟨u,c,cs,M3.out⟩) ⟨rfl,rfl,rfl,nR _,λ_ _=>rfl⟩;have hI0:Mr { w3 with drawn:=w3.drawn+1 } N (λb=>Z b\/b=w.heap.size) m r t v:=Mr.below ⟨u,c,cs,M3.out⟩ ⟨rfl,rfl,rfl,nR _,λ_ _=>rfl⟩
     have Jt:Hid (∀W,CM N (λb=>Z b\/b=w.heap.size) m r t v.ps w3 W->W.cell? ⟨b8,2,none⟩=some (.slice A nn cc)/\b8<W.heap.size/\Bx W b8 64 (pC cs k)):=hZ (λW hW=>by
      have:=P3.out.bM hW.2 (by decide) (by decide) (by decide)
      exact⟨(this.cell 2).trans HPX.out,this.lt,this⟩)
     have Di:=hZ hKS;clear Su hKS;refine J2 12 (MD N (CM N (λb=>Z b\/b=w.heap.size) m r t v.ps w3) 3) (CM N (λb=>Z b\/b=w.heap.size) m r t v.ps w3) [([3],λW=>Mr W N (λb=>Z b\/b=w.heap.size) m r t v)] [fG.yI (C:=CM N (λb=>Z b\/b=w.heap.size) m r t v.ps w3) (K:=3) (N:=N) (Z:=λb=>Z b\/b=w.heap.size) (m:=m) (r:=r) (t:=t) (.int .i64 f2) (aQ v)] (by kernel_rfl) (D7 3 v) hC0 (λp hp=>by rcases List.mem_singleton.1 hp with rfl;exact hI0) (by kernel_rfl) (by kernel_rfl) (by kernel_rfl) ?_;intro V hV;have e3:V 3=.int .i64 f2:=hV 3;simp only[List.take_succ_cons,List.take_zero,List.drop_succ_cons,List.drop_zero];refine dq (noW w3) (λw h=>h.noW) rfl rfl ?_;go_big_quiet_step(fail);refine wpQuiet_nil ?_;refine dq (noW w3) (λw h=>h.noW) rfl rfl ?_;go_big_quiet_step(fail);refine wpQuiet_nil ?_;refine dq (noW w3) (λw h=>h.noW) rfl rfl ?_;go_big_quiet_step(fail);refine wpQuiet_nil ?_;refine P8 (noW w3) (fG.yI (.int .i64 f2) (aQ v)) (by kernel_rfl) rfl (λw' hC hi hf=> ?_) ?_
     ·have hm:Mr w' N (λb=>Z b\/b=w.heap.size) m r t v:=hi _ (List.Mem.head _) (by kernel_rfl)
      obtain⟨u',c',cs',hm⟩:=hm;exact rG (f:=36) (args:= #[.pointer (some ⟨m,0,none⟩)]) hC (Bi v) (by go_simp) (Dm hm oN.out)
     go_big_quiet_step(fail);refine wpQuiet_nil ?_;simp only[e3];refine dq (noW w3) (λw h=>h.noW) rfl rfl ?_;go_big_quiet_step(fail);refine wpQuiet_nil ?_;refine df (noW w3) (.slice A nn cc) (by kernel_rfl) rfl (λw' hC hi hf=>by obtain⟨q1,q2,q3⟩:=Jt.out _ hC;go_simp) ?_;go_big_quiet_step(fail);refine wpQuiet_nil ?_;refine dq (noW w3) (λw h=>h.noW) rfl rfl ?_;go_big_quiet_step(fail);refine wpQuiet_nil ?_;refine df (noW w3) (.agg #[.bool KS.t0,.int .i64 KS.d0,.bool KS.t1,.int .i64 KS.d1,.bool KS.t2,.int .i64 KS.d2,.bool KS.t3,.int .i64 KS.d3]) (by kernel_rfl) rfl (λw' hC hi hf=>nU rfl (lN Tryz.underlying40 rfl gX (Jt.out _ hC).2.2 Qv.out rfl)) ?_;go_big_quiet_step(fail);refine wpQuiet_nil ?_;refine dq (noW w3) (λw h=>h.noW) rfl rfl ?_;go_big_quiet_step(fail);refine wpQuiet_nil ?_;refine dn (noW w3) ⟨m,0,none⟩ (by kernel_rfl) rfl rfl ?_;go_big_quiet_step(fail);refine wpQuiet_nil ?_;refine dq (noW w3) (λw h=>h.noW) rfl rfl ?_;go_big_quiet_step(fail);refine wpQuiet_nil ?_;refine dq (noW w3) (λw h=>h.noW) rfl rfl ?_;go_big_quiet_step(fail);refine wpQuiet_nil ?_;refine Zl ?_;intro w4 Je hi hf;have qD:Mr w4 N (λb=>Z b\/b=w.heap.size) m r t (aQ v):=hf _ (List.Mem.head _) rfl;obtain⟨u4,c4,Fe,qD⟩:=qD;have M4:=hZ qD;have F4:=hZ (F3.out.trans Je.2);have A4:=hZ (A3.out.bM Je.2 (by decide) (by decide) (by decide));have R4:=hZ (R3.out.keep λb cur hx=>hx.bM Je.2 (by decide) (by decide) (by decide));have aPm:=hZ qD.V.size;have aDt:Hid ((#[.bool true,.int .i64 f2,.slice A nn cc,.bool KS.t0,.int .i64 KS.d0,.bool KS.t1,.int .i64 KS.d1,.bool KS.t2,.int .i64 KS.d2,.bool KS.t3,.int .i64 KS.d3]:Array Value).all (·.oneCell')=true):=hZ (by simp[Value.oneCell']);have M5:=hZ (qD.Yv HC3.out (pc:= #[.bool true,.int .i64 f2,.slice A nn cc,.bool KS.t0,.int .i64 KS.d0,.bool KS.t1,.int .i64 KS.d1,.bool KS.t2,.int .i64 KS.d2,.bool KS.t3,.int .i64 KS.d3]) (p:=⟨true,f2,(v.ps k).rg,KS⟩) rfl aDt.out rfl rfl ⟨_,rfl,R4.out⟩ (λi y hy=>by have hi:=sK hy;rw[<-hy];rcases i with _|_|_|_|_|_|_|_|i;all_goals (first|rfl|omega)));have HBV:Hid (({ aQ v with ps:=fJ (aQ v).ps ch ⟨true,f2,(v.ps k).rg,KS⟩ } :Vm)=iN v k ch):=hZ (by unfold iN;rw[oN.out.n,<-Di.out]);rw[HBV.out] at M5;have gY:=qD.qU (eU w4 m (69+ch*11) (#[.bool true,.int .i64 f2,.slice A nn cc,.bool KS.t0,.int .i64 KS.d0,.bool KS.t1,.int .i64 KS.d1,.bool KS.t2,.int .i64 KS.d2,.bool KS.t3,.int .i64 KS.d3]:Array Value).toList);have F5:=hZ (F4.out.trans gY);have A5:=hZ (A4.out.bM gY (by decide) (by decide) (by decide));obtain⟨w5,nJ⟩:∃w5,w5=w4.setCells m (69+ch*11) (#[.bool true,.int .i64 f2,.slice A nn cc,.bool KS.t0,.int .i64 KS.d0,.bool KS.t1,.int .i64 KS.d1,.bool KS.t2,.int .i64 KS.d2,.bool KS.t3,.int .i64 KS.d3]:Array Value).toList:=⟨_,rfl⟩;have HW5:=hZ nJ;rw[<-nJ] at M5 F5 A5;have lm4:=qD.size;clear hi hf hV e3 Je qD hC0 hI0 gY nJ;go_wp2_with((with_reducible refine stM yK m (69+ch*11) #[.bool true,.int .i64 f2,.slice A nn cc,.bool KS.t0,.int .i64 KS.d0,.bool KS.t1,.int .i64 KS.d1,.bool KS.t2,.int .i64 KS.d2,.bool KS.t3,.int .i64 KS.d3] ?_ ?_ M4.out.X ?_ rfl aDt.out ?_);rfl;rfl;exact(by rw[aPm.out];have:=HC3.out;omega);rw[<-HW5.out])
     have HFS:Hid (∀n,n<64->Yl (iP (iN v k ch) k ch n) k ch n):=hZ (λn hn=>by have:=HFO.out.st n hn;rwa[<-Ch.out] at this);clear lm4 HMP HCT hwr;go_loopw [58] (λi wr=>∃n:Nat,n<=64/\i=.int .i64 n/\Hid (Mr wr N (λb=>Z b\/b=w.heap.size) m r t (iP (iN v k ch) k ch n))/\Hid (aN N w wr)/\Hid (Bx wr w.heap.size 35 #[.int .i64 0,.int .i64 0,.int .i64 0,.int .i64 0])) (λi _=>64 - (intOf i).toNat)
     case atStart=>exact⟨0,by omega,rfl,hZ ⟨u4,c4,_,M5.out⟩,F5,A5⟩
     case round=>
      obtain⟨n,hn,rfl,Dh,xX,Ng⟩:=hrel;obtain⟨u',c',cs',hM⟩:=Dh.out;have lF:=hZ hM;clear hM;by_cases hlt:n<64
      ·have hni:(n:Int)<64:=by omega
       have hn0:(0:Int)<=(n:Int):=by omega
       have HST:=hZ (HFS.out n hlt);have uH:Hid (iP (iN v k ch) k ch (n+1)=Q4 k ch (iP (iN v k ch) k ch n) n):=hZ (Oe _ _ _ _);obtain⟨U,hU⟩:∃U,U=iP (iN v k ch) k ch n:=⟨_,rfl⟩;rw[<-hU] at lF HST uH;obtain⟨K,X,uW⟩:∃K X,gF U k n=(K,X):=⟨_,_,rfl⟩;have xW:=hZ uW;have HSN:Hid (Q4 k ch U n=if K=0 then U else gI (kE U K X) ch n K X):=hZ (by unfold Q4;rw[uW]);clear hU uW;by_cases h0:K=0
       ·subst h0
        have HN:Hid (iP (iN v k ch) k ch (n+1)=U):=hZ (by rw[uH.out,HSN.out,if_pos rfl]);go_wp2_with fail
        refine(rY lF.out HST.out.zb k HK.out n HST.out.ge).mono ?_;rintro e w6 ⟨rfl,hb6⟩;rw[xW.out];have hw7:=hb6.trans ((aD w6 (.cells #[.int .i64 0,.int .i64 X] 147)).mono hb6.size);have M7:=hZ (lF.out.below hw7);have F7:=hZ (xX.out.trans (aN.of lF.out.hN hw7));have A7:=hZ (Ng.out.below hw7);have X7:=hZ (Bx.new w6 147 #[.int .i64 0,.int .i64 X]);clear hb6 hw7;go_wp2;go_roundw
        case rel=>exact⟨n+1,by omega,by go_num,hZ (by rw[HN.out];exact⟨u',c',cs',M7.out⟩),F7,A7⟩
        case measure=>simp[intOf];omega
       ·have HN:Hid (iP (iN v k ch) k ch (n+1)=gI (kE U K X) ch n K X):=hZ (by rw[uH.out,HSN.out,if_neg h0])
        have Dc:Hid (aFX U (K,X)):=hZ (by have:=HST.out.sh;rw[xW.out] at this;exact this h0);have lS:Hid (xD (kE U K X) ch n K X):=hZ (by have:=HST.out.st;rw[xW.out] at this;exact this h0)
        have HKK:Hid ((K=1/\∃f:Nat,X=f/\f<64)\/K=2):=hZ (by
         rcases Dc.out with⟨a,f,b,d,_⟩|⟨a,_⟩
         ·exact .inl ⟨a,f,b,d⟩
         ·exact .inr a)
        go_wp2_with fail
        refine(rY lF.out HST.out.zb k HK.out n HST.out.ge).mono ?_;rintro e w6 ⟨rfl,hb6⟩;rw[xW.out];have hw7:=hb6.trans ((aD w6 (.cells #[.int .i64 K,.int .i64 X] 147)).mono hb6.size);have M7:=hZ (lF.out.below hw7);have F7:=hZ (xX.out.trans (aN.of lF.out.hN hw7));have A7:=hZ (Ng.out.below hw7);have X7:=hZ (Bx.new w6 147 #[.int .i64 K,.int .i64 X]);clear hb6 hw7
        go_wp2_with(first
         |(go_at_call 79
           refine(aES M7.out Dc.out).mono ?_;rintro e w8 ⟨rfl,⟨u8,c8,Xo,Cz⟩,C9⟩;have M8:=hZ Cz;have F8:=hZ (F7.out.trans C9);have A8:=hZ (A7.out.bM C9 (by decide) (by decide) (by decide));have X8:=hZ (X7.out.bM C9 (by decide) (by decide) (by decide));have c0:w8.cell? ⟨w6.heap.size,0,none⟩=some (.int .i64 K):=(X8.out.cell 0).trans rfl;have c1:w8.cell? ⟨w6.heap.size,1,none⟩=some (.int .i64 X):=(X8.out.cell 1).trans rfl;have lx:=X8.out.lt
           clear Cz C9)
         |(go_at_call 80
           refine(aH2 M8.out HC3.out n HKK.out lS.out).mono ?_;rintro e w9 ⟨rfl,hm9,hf9⟩;have M9:=hZ hm9;have F9:=hZ (F8.out.trans hf9);have A9:=hZ (A8.out.bM hf9 (by decide) (by decide) (by decide))
           clear hm9 hf9 c0 c1 lx))
        go_roundw
        case rel=>exact⟨n+1,by omega,by go_num,hZ (by rw[HN.out];exact M9.out),F9,A9⟩
        case measure=>simp[intOf];omega
      ·have Cq:n=64:=by omega
       subst Cq;have a0:wr.cell? ⟨w.heap.size,0,none⟩=some (.int .i64 0):=(Ng.out.cell 0).trans rfl;have a1:wr.cell? ⟨w.heap.size,1,none⟩=some (.int .i64 0):=(Ng.out.cell 1).trans rfl;have a2:wr.cell? ⟨w.heap.size,2,none⟩=some (.int .i64 0):=(Ng.out.cell 2).trans rfl;have a3:wr.cell? ⟨w.heap.size,3,none⟩=some (.int .i64 0):=(Ng.out.cell 3).trans rfl;have f0:=Ng.out.free 0;have f1:=Ng.out.free 1;have f2:=Ng.out.free 2;have f3:=Ng.out.free 3;have la:=Ng.out.lt;go_wp2
       exact bodyPost_ret (v:=.agg #[.int .i64 0,.int .i64 ch,.int .i64 0,.int .i64 0]) (by simp[results,Tryz.results41,go_sem,a0,a1,a2,a3,la]) rfl (by
        obtain⟨q1,q2⟩:=Zc lF.out (.inr rfl) Ng.out xX.out HN0.out (nR _) (.int .i64 0) (.int .i64 ch) (.int .i64 0) (.int .i64 0);rw[HE2.out]
        exact⟨rfl,⟨u',c',cs',q1.less λb hz=>.inl hz⟩,q2⟩)
end Go.Proofs.YtoogfmbojlpjaaaGreat
