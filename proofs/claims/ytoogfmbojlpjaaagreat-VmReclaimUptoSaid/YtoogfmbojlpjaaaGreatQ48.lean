/- Lemmas. -/
import Derived.Test.YtoogfmbojlpjaaaGreatQ47
import Derived.Test.YtoogfmbojlpjaaaGreatQ7
import Derived.Test.YtoogfmbojlpjaaaGreatQ29
import Derived.Test.YtoogfmbojlpjaaaGreatQ26
import Derived.Test.YtoogfmbojlpjaaaGreatQ5
import Derived.Test.YtoogfmbojlpjaaaGreatQA
set_option maxRecDepth 100000
set_option maxHeartbeats 32000000
set_option linter.unusedVariables false
set_option linter.unusedSimpArgs false
namespace Go.Proofs.YtoogfmbojlpjaaaGreat
open Go.ChangeShapes Go.WideShapes Go.ChangeAt Go.RowKit Go.Joins Go.Sort
section
def Gl (a:bX):List Value:=[.int .i64 a.err,.int .i64 a.value,.int .i64 a.fault,.int .i64 a.pos]
def vfO (o:aL):List Value:=(aZ o).toList
theorem tV (x:bX):(Gl x).length=4:=rfl
theorem aDV (x:aL):(vfO x).length=12:=rfl
theorem aBn:∀(x:bX),∀u∈Gl x,u.oneCell'=true:=by intro x;simp[Gl,Value.oneCell']
theorem aDU:(Tryz.prog.info? 35).map (λi=>(i.zero,i.size,i.bytes))=some (some (.agg #[.int .i64 0,.int .i64 0,.int .i64 0,.int .i64 0]),4,32):=by kernel_rfl
theorem aHk:(Tryz.prog.info? 71).map (·.size)=some 3:=by kernel_rfl
theorem tJ:(Tryz.prog.info? 29).map (·.size)=some 2:=by kernel_rfl
theorem aKD:(Tryz.prog.info? 55).map (·.size)=some 64:=by kernel_rfl
theorem Tz (o:aL):(aZ o).all (·.oneCell')=true:=by simp[aZ,Value.oneCell']
theorem aK8 {w:World} {base:Nat} {e T:TypeId} {size:Nat} {v:Value} {n:Nat} {xs:List Value} (h:w.ownsRow base e size v n xs) {g:Nat} {cs:Array Value} (hb:Bx w g T cs) (hT:T≠e):v.ownBlock≠some g:=by
 intro hv;obtain⟨_,⟨rfl,_⟩|⟨g',cap,cur,rfl,_,hg,_⟩⟩:=h
 ·cases hv
 ·simp only[Value.ownBlock,Option.some.injEq] at hv
  subst hv;exact gP hb hg hT rfl
section
variable {P:Program} {ops:Array Oper} {rest:List Oper} {dst:Option Tmp} {x:Operand} {type:TypeId} {pos:String} {after:Array Edge} {guard:Option (Nat×Bool)} {a:Act} {w:World} {Q:Exit->Act->World->Prop}
theorem aCj {t:TypeId} {n:Nat} {d:TypeDesc} (hu:P.underlying t=some d) (hd:d.isRow=true) (hi:(P.info? t).map (·.size)=some n) (g o:Nat) (rs:Array Value) (hx:a.eval x=.pointer (some ⟨g,o,none⟩)) (hw:Region.wanted ⟨dst,.load t x,type,pos,after,guard⟩ (yielded ops a.tmps)=true) (hc:∀(j:Nat) (v:Value),rs[j]? =some v->w.cell? ⟨g,o+j,none⟩=some v) (hn:rs.size=n)
 (h:wpList P ops Q rest (a.put dst (.agg rs)) w):wpList P ops Q (⟨dst,.load t x,type,pos,after,guard⟩::rest) a w:=by
 have h':wpList P ops Q rest (a.put dst (.agg rs.toList.toArray)) w:=by simpa using h
 refine wpList_step λK hK=> ?_;simp only[hw,if_true];exact wp_load_mid t x rfl g o hx rs.toList _ (λj v hv=>hc j v (by simpa using hv)) hu hd (by rw[hi,Array.length_toList,hn]) (hK _ _ h')
end
def Qo (v:Value) (b:Nat):Prop:=v.ownBlock=some b
theorem Mo.app {w w':World} {N m r t u c g' n' c':Nat} {cs:Array Value} {v:Vm} {va:Value} {T:TypeId} {base sz n:Nat} {xs:List Value} (h:Mo w N (Qo va) m r t u c cs v) (ho:w.ownsRow base T sz va n xs) (h1:T≠69) (h2:T≠5) (h3:T≠4) (h4:T≠99)
 (hg:w.grownBy w' va.ownBlock) (hn:some g'=va.ownBlock\/w.heap.size<=g') (hl:g'<w'.heap.size):Mo w' N (Qo (.slice (some ⟨g',0,none⟩) n' c')) m r t u c cs v:=by
 have hty:∀b,Qo va b->∃cur,Bx w b T cur:=λb hb=>by
  rcases ho with⟨q1,⟨rfl,_⟩|⟨g,cap,cur,rfl,hg,hh,_⟩⟩
  ·cases hb
  ·unfold Qo Value.ownBlock at hb
   simp only[Option.some.injEq] at hb;subst hb;exact⟨cur,hh⟩
 obtain⟨c1,x1⟩:=nI h.iX (by decide);obtain⟨c2,x2⟩:=nI h.tag (by decide);obtain⟨c3,x3⟩:=Kk h.us (by decide);have hk:∀b,b<w.heap.size->¬Qo va b->w'.heap[b]? =w.heap[b]? :=λb hb hnb=>hg.block b hb (λe=>hnb e.symm);have nz:∀b T' z,Bx w b T' z->T≠T'->¬Qo va b:=λb T' z hx hT hb=>by
  obtain⟨cur,hc⟩:=hty b hb;exact gP hc hx hT rfl
 obtain⟨l1,l2,l3,l4⟩:=h.lt
 have V1:Mv (λb=>Qo va b\/b=g') w m r t u c cs v:=h.V.out λb hb' ho=>⟨ho.1,ho.2.1,ho.2.2.1,ho.2.2.2.1,λk=>by
  rcases k with k|k
  ·exact ho.2.2.2.2 k
  ·rcases hn with e|e
   ·exact ho.2.2.2.2 (by rw[k];exact e.symm)
   ·omega⟩
 have V2:=V1.keeps (w':=w') (λb hb ho=>hk b hb λk=>ho.2.2.2.2 (.inl k)) (λb cur hx=>(hk b hx.lt (nz b _ _ hx h4)).trans hx) hg.size
 have M2:Mo w' N (λb=>Qo va b\/b=g') m r t u c cs v:=⟨h.nm,h.nr,h.nt,h.nu,h.rt,λb hz=>by
  rcases hz with hz|rfl
  ·exact Nat.lt_of_lt_of_le (h.zl b hz) hg.size
  ·exact hl,(hk m l1 (nz m _ _ h.X h1)).trans h.X,h.iX.same (hk r l2 (nz r _ _ x1 h2)),h.tag.same (hk t l3 (nz t _ _ x2 h2)),h.us.same (hk u l4 (nz u _ _ x3 h3)),V2⟩
 exact M2.less λb hb=>.inr (by unfold Qo Value.ownBlock at hb;simp only[Option.some.injEq] at hb;exact hb.symm)
theorem Mo.nil {w:World} {N m r t u c:Nat} {Z:Nat->Prop} {cs:Array Value} {v:Vm} (h:Mo w N Z m r t u c cs v) (hz:∀b,¬Z b):Mo w N (Qo (.slice none 0 0)) m r t u c cs v:=h.less (λb hb=>by cases hb)
theorem Gj {x:aL} {W:World} {b o:Nat} (h:∀j v,(vfO x)[j]? =some v->W.cell? ⟨b,o+j,none⟩=some v):∀(j:Nat) (v:Value),(aZ x)[j]? =some v->W.cell? ⟨b,o+j,none⟩=some v:=λj v hv=>h j v (by simpa[vfO] using hv)
theorem aGh {xs:List aL} {k:Nat} {x:aL} (h:xs[k]? =some x):bS (xs.take (k+1))=((iQ (bS (xs.take k)).1 x).1,(bS (xs.take k)).2++ [(iQ (bS (xs.take k)).1 x).2]):=by
 have hl:=(List.getElem?_eq_some_iff.1 h).1;rw[List.take_succ_eq_append_getElem hl,(List.getElem?_eq_some_iff.1 h).2,Oj]
theorem aH3 (xs:List aL):(bS xs).2.length=xs.length:=by
 suffices h:∀(l:List aL) (s:Vm×List bX),(l.foldl (λs o=>((iQ s.1 o).1,s.2++ [(iQ s.1 o).2])) s).2.length=s.2.length+l.length by
  unfold bS;rw[h];simp
 intro l
 induction l with
 |nil=>intro s;simp
 |cons o l ih=>intro s;rw[List.foldl_cons,ih];simp;omega
structure aKt (xs:List aL):Prop where
 b:∃f,vE cO f
 d:∀k x,xs[k]? =some x->aJ9 (bS (xs.take k)).1 x
 r:∀k,k<64->0<=(bS xs).1.rf k/\(bS xs).1.rf k<=1000
 s:∀x∈(bS xs).1.dv,0<=x.r/\x.r<=1000
 l:(bS xs).1.dv.length=64
def uF (v:Vm) (k:Nat):Int:=((List.range k).map λn=>min (v.rf n) 1).sum
def uS (v:Vm) (k:Nat):Int:=((v.dv.take k).map λs=>min s.r 1).sum
theorem aDY (v:Vm) (k:Nat):uF v (k+1)=uF v k+min (v.rf k) 1:=by
 unfold uF;rw[List.range_succ,List.map_append,List.sum_append];simp
theorem aDX {v:Vm} {k:Nat} {s:gT} (h:v.dv[k]? =some s):uS v (k+1)=uS v k+min s.r 1:=by
 have hl:=(List.getElem?_eq_some_iff.1 h).1;unfold uS;rw[List.take_succ_eq_append_getElem hl,(List.getElem?_eq_some_iff.1 h).2,List.map_append,List.sum_append];simp
theorem aGs {v:Vm} (h:∀k,k<64->0<=v.rf k/\v.rf k<=1000):∀k,k<=64->0<=uF v k/\uF v k<=k
 |0,_=>by unfold uF;simp
 |k+1,hk=>by
  have h1:=aGs h k (by omega);have h2:=h k (by omega);rw[aDY];omega
theorem aGr {v:Vm} (hl:v.dv.length=64) (h:∀x∈v.dv,0<=x.r/\x.r<=1000):∀k,k<=64->0<=uS v k/\uS v k<=k
 |0,_=>by unfold uS;simp
 |k+1,hk=>by
  have h1:=aGr hl h k (by omega);have hk':k<v.dv.length:=by omega
  have h2:=h _ (List.getElem_mem hk');rw[aDX (List.getElem?_eq_getElem hk')];omega
def vR (w:World) (xs:List aL) (e:Ending) (w':World):Prop:=∃va,e=.returned (.tuple #[va,.agg #[.int .i64 (jJ (bS xs).1),.int .i64 (kU (bS xs).1)]])/\Os Gl 4 35 w' w.heap.size va (bS xs).2/\Below w.heap.size w w'
structure LpV (w:World) (m r t:Nat) (xs:List aL) (k:Nat) (va:Value) (wr:World):Prop where
 ans:Os Gl 4 35 wr w.heap.size va (bS (xs.take k)).2
 mr:Mr wr (w.heap.size+1) (Qo va) m r t (bS (xs.take k)).1
 low:Below w.heap.size w wr
 res:Bx wr w.heap.size 29 #[.int .i64 0,.int .i64 0]
theorem J3 (A:Option Addr) (n c:Nat) (xs:List aL) (w:World) (B:Nat) (hz:Rw vfO 12 w B A n xs) (hB:B<=w.heap.size) (hbig:n<=4398046511103) (hf:∀x∈xs,x.fits) (hR:aKt xs):
 Calls Tryz.prog 12 #[.slice A n c] w (vR w xs):=by
 have hln:=hz.1;have HX:=hZ (λ(i:Nat) (hi:i<n)=>(⟨xs[i]'(by omega),List.getElem?_eq_getElem _,hf _ (List.getElem_mem _)⟩:∃x,xs[i]? =some x/\x.fits));have jN:=hZ hln;have HZ:=hZ (hz.below ((Below.refl w.heap.size w).mono hB));have HRO:=hZ hR;obtain⟨f0,hf0⟩:=hR.b;have oN:=hZ hf0;clear hz hln hf hR hf0;have HA:Hid (0<n->∃b off,A=some ⟨b,off,none⟩/\b<B):=hZ (λh=>HZ.out.open h);have HB0:=hZ (aD w (.cells #[.int .i64 0,.int .i64 0] 29));have HR0:Hid (Bx (w.alloc (.cells #[.int .i64 0,.int .i64 0] 29)) w.heap.size 29 #[.int .i64 0,.int .i64 0]):=hZ (Bx.new _ _ _);have Hu:=hZ (aJD oN.out (w.alloc (.cells #[.int .i64 0,.int .i64 0] 29)));go_enter Tryz.func12,Tryz.ntmps12;go_wp2_with(go_at_call 17;refine Hu.out.mono ?_;rintro e w1 ⟨m,r,t,rfl,hm1,hb1⟩)
 have hstart:LpV w m r t xs 0 (.slice none 0 0) w1:=⟨Os.nil,by
  have hm2:=hm1;rw[World.size_alloc] at hm2;obtain⟨u,c,cs,hm2⟩:=hm2
  exact⟨u,c,cs,hm2.nil (λ_ h=>h)⟩,HB0.out.trans (hb1.mono (by simp)),HR0.out.below hb1⟩
 have HST:=hZ hstart;clear hstart hm1 Hu hb1;go_loopw [16,5] (λi o wr=>∃k:Nat,k<=n/\i=.int .i64 k/\Hid (LpV w m r t xs k o wr)) (λi _ _=>n - (intOf i).toNat)
 case atStart=>exact⟨0,by omega,rfl,HST⟩
 case round=>
  obtain⟨k,hk,rfl,HL⟩:=hrel;by_cases hlt:k<n
  ·obtain⟨x,hx,hfx⟩:=HX.out k hlt
   obtain⟨b,off,q8,hb⟩:=HA.out (by omega);subst q8;have HC:=hZ (Gj ((HZ.out.below (HL.out.low.mono hB)).at_ aDV hx));have HS:=hZ (aGh hx);have HLE:Hid ((bS (xs.take k)).2.length=k):=hZ (by rw[aH3,List.length_take,jN.out];omega);obtain⟨u',c',cs',hm⟩:=HL.out.mr;have HAN:=hZ HL.out.ans;have Jq:=hZ HL.out.low;have Cf:=hZ HL.out.res;have HWS:=hZ (hm.below (aD wr (.cells (aZ x) 26)));have HDO:=hZ (aKE HWS.out x hfx (HRO.out.d k x hx));have mY:Hid ((aZ x).size=12):=hZ rfl;have zO:=hZ (Tz x);clear HL hx hfx hm;generalize hS:bS (xs.take k)=S at*;clear hS;obtain⟨oA,rU⟩:∃oA,oA=aZ x:=⟨_,rfl⟩;rw[<-rU] at HC HWS HDO mY zO;clear rU;obtain⟨r3,hr3⟩:∃r3,r3=iQ S.1 x:=⟨_,rfl⟩;rw[<-hr3] at HS HDO;clear hr3;obtain⟨V2,an⟩:=r3;simp only at HS HDO;have hlo:=Jq.out.size;have hle:=HLE.out
   go_wp2_with(first
    |((with_reducible refine aCj Tryz.underlying26 rfl kY b (off+k*12) oA ?_ ?_ HC.out mY.out ?_);rfl;rfl)
    |((with_reducible refine uM kY oA ?_ ?_ rfl mY.out zO.out ?_);rfl;rfl)
    |((with_reducible refine qW Tryz.underlying26 rfl kY wr.heap.size 0 oA ?_ ?_ (Bx.new _ _ _) (Sub.all _) mY.out ?_);rfl;rfl)
    |(go_at_call 18
      refine HDO.out.mono ?_;rintro e w2 ⟨rfl,hm2,hf2⟩;have lF:=hZ hm2;have HB2:=hZ ((Jq.out.trans ((aD wr (.cells oA 26)).mono hlo)).trans (hf2.1.mono (Nat.le_succ _)))
      have A2:Hid (Os Gl 4 35 w2 w.heap.size u5 S.2):=hZ (by
       have h0:=HAN.out.below (aD wr (.cells oA 26)) (nR _);rcases h0 with⟨q1,⟨q2,q3⟩|⟨g,cap,cur,e,hg,hh,q⟩⟩
       ·exact⟨q1,.inl ⟨q2,q3⟩⟩
       ·exact⟨q1,.inr ⟨g,cap,cur,e,hg,hf2.2 g _ cur (by decide) (by decide) (by decide) hh,q⟩⟩)
      have R2:=hZ ((Cf.out.below (aD wr (.cells oA 26))).bM hf2 (by decide) (by decide) (by decide));have hb2:=HB2.out.size
      clear hm2 hf2)
    |(at_builtin;refine Lt Tryz.underlying27 aDU rfl (by decide) tV aBn rfl _ _ rfl w.heap.size u5 S.2 w2 an w2.heap.size rfl rfl rfl A2.out hb2 (by unfold maxLen;omega) (by omega) ?_
      intro g' c' w3 ho3 hg3 hn3 aPP hc3 hm3))
   go_roundw
   case rel=>
    refine⟨k+1,by omega,by go_num,hZ ⟨by rw[HS.out,<-HLE.out];exact ho3,?_,HB2.out.trans (qL hg3 A2.out (nR _) hb2),?_⟩⟩
    ·obtain⟨u2,c2,cs2,hm2⟩:=lF.out
     rw[HS.out];refine⟨u2,c2,cs2,hm2.app A2.out (by decide) (by decide) (by decide) (by decide) hg3 hn3 ?_⟩;obtain⟨_,⟨e,_⟩|⟨g,cap,cur,e,_,hh,_⟩⟩:=ho3
     ·cases e
     ·injection e with e;injection e with e;injection e with e;rw[e];exact kM hh
    ·exact(hg3.block _ R2.out.lt (aK8 A2.out R2.out (by decide)).symm).trans R2.out
   case measure=>simp[intOf];omega
  ·have hkn:k=n:=by omega
   subst hkn;have HF:xs.take k=xs:=List.take_of_length_le (by rw[jN.out];exact nR _);obtain⟨u',c',cs',hm⟩:=HL.out.mr;have han:=HL.out.ans;rw[HF] at hm han;have HAN:=hZ han;have Jq:=hZ HL.out.low;have Cf:=hZ HL.out.res;obtain⟨S,hS⟩:∃S,S=bS xs:=⟨_,rfl⟩;have HSX:=hZ hS;have HRR:Hid (∀k,k<64->0<=S.1.rf k/\S.1.rf k<=1000):=hZ (by rw[hS];exact HRO.out.r);have HRS:Hid (∀x∈S.1.dv,0<=x.r/\x.r<=1000):=hZ (by rw[hS];exact HRO.out.s);have De:Hid (S.1.dv.length=64):=hZ (by rw[hS];exact HRO.out.l);rw[<-hS] at HAN hm;have HM0:=hZ hm;clear hS HL HF han HX HA HZ HST HB0 HR0 oN HRO hm jN;have hB3:=aD wr (.cells #[.int .i64 0,.int .i64 0] 29);have HU3:Hid (Bx (wr.alloc (.cells #[.int .i64 0,.int .i64 0] 29)) wr.heap.size 29 #[.int .i64 0,.int .i64 0]):=hZ (Bx.new _ _ _);have HM3:=hZ (HM0.out.below hB3);have A3:=hZ (HAN.out.below hB3 (nR _));have L3:=hZ (Jq.out.trans (hB3.mono Jq.out.size));have R3:=hZ (Cf.out.below hB3);have LU:Hid (w.heap.size<wr.heap.size):=hZ Cf.out.lt;obtain⟨ub,hub⟩:∃ub,ub=wr.heap.size:=⟨_,rfl⟩;obtain⟨w3,hw3⟩:∃w3,w3=wr.alloc (.cells #[.int .i64 0,.int .i64 0] 29):=⟨_,rfl⟩;have HW3:Hid (wr.alloc (.cells #[.int .i64 0,.int .i64 0] 29)=w3/\wr.heap.size=ub):=hZ ⟨hw3.symm,hub.symm⟩;have HMU:Hid (ub≠m):=hZ (by rw[hub];have:=HM0.out.size;omega);rw[<-hw3,<-hub] at HU3;rw[<-hw3] at HM3 A3 L3 R3;rw[<-hub] at LU;obtain⟨Ad,cd,xd,hd1,hd2,hd3,hd4⟩:=HM0.out.V.dev;obtain⟨bd,od,had,hbd,hcd⟩:=hd2.2.2 (by decide);subst had;have HD1:=hZ hd1;have HDL:=hZ hd2.1;have HD3:=hZ hd3;have HNU:Hid (bd≠ub):=hZ (by omega);have HBD:Hid (bd<w3.heap.size):=hZ (by rw[hw3,World.size_alloc];omega);have HCD:Hid (∀i x,xd[i]? =some x->∀j v,(fS x)[j]? =some v->w3.cell? ⟨bd,od+i*3+j,none⟩=some v):=hZ (λi x hx j v hv=>(World.cell?_of_block (a:=⟨bd,_,none⟩) (by rw[hw3];exact hB3.block bd hbd)).trans (hcd i x hx j v hv));clear hub hw3 hB3 hd1 hd2 hd3 hd4 hcd hbd;have X3:=hZ HM3.out.X;obtain⟨rs,hrs⟩:∃rs,rs=((List.range 64).map λi=>Value.int .i64 (S.1.rf i)).toArray:=⟨_,rfl⟩;have HRV:Hid (RfV rs S.1.rf):=hZ (by rw[hrs];exact⟨by simp,λi hi=>by simp[hi]⟩);have HRZ:Hid (rs.size=64):=hZ HRV.out.size
   have HSB:Hid (Sub cs' 3 rs):=hZ (λi x hx=>by
    have hi:i<64:=by rw[<-HRZ.out];exact(Array.getElem?_eq_some_iff.1 hx).1
    rw[HRV.out.at_ i hi] at hx
    rw[<-hx];exact HM3.out.V.refs i hi)
   clear hrs;go_upto_region 9 with fail
   rw[HW3.out.1,HW3.out.2];have lm3:=X3.out.lt;go_wp2_with(((with_reducible refine qW Tryz.underlying55 rfl aKD m 3 rs ?_ ?_ X3.out HSB.out HRZ.out ?_);rfl;rfl))
   have U3:Hid (Bx w3 ub 29 #[.int .i64 (uF S.1 0),.int .i64 0]):=HU3;go_loopw [32] (λi wr=>∃j:Nat,j<=64/\i=.int .i64 j/\Hid (Bx wr ub 29 #[.int .i64 (uF S.1 j),.int .i64 0])/\Hid (bD (λb=>b=ub) w3 wr)) (λi _=>64 - (intOf i).toNat)
   case atStart=>exact⟨0,by omega,rfl,U3,hZ (bD.refl _ _)⟩
   case round=>
    obtain⟨j,hj,rfl,HU,HK⟩:=hrel;by_cases hlt2:j<64
    ·obtain⟨rj,hrj⟩:∃rj,rj=S.1.rf j:=⟨_,rfl⟩
     obtain⟨aj,haj⟩:∃aj,aj=uF S.1 j:=⟨_,rfl⟩;have h1:=HRR.out j hlt2;have h2:=aGs HRR.out j hj;have Te:Hid (uF S.1 (j+1)=aj+min rj 1):=hZ (by rw[haj,hrj,aDY]);have hidx:=aBR HRV.out hlt2;rw[<-hrj] at h1 hidx;rw[<-haj] at h2 HU;clear hrj haj;have c0:wr.cell? ⟨ub,0,none⟩=some (.int .i64 aj):=by rw[HU.out.cell];rfl
     have f0:wr.frozen? ⟨ub,0,none⟩=false:=HU.out.free _;have l0:ub<wr.heap.size:=HU.out.lt;have Mf:IntKind.i64.wrap (aj+min rj 1)=aj+min rj 1:=by rw[IntKind.wrap_i64];omega
     have Yf:Hid (Bx (wr.setCell ⟨ub,0,none⟩ (.int .i64 (aj+min rj 1))) ub 29 #[.int .i64 (uF S.1 (j+1)),.int .i64 0]):=hZ (by rw[Te.out];exact HU.out.set 0 _);have HK2:=hZ (HK.out.cell (g:=ub) (.inl rfl) 0 (.int .i64 (aj+min rj 1)));go_wp2;go_roundw
     case rel=>exact⟨j+1,by omega,by go_num,Yf,HK2⟩
     case measure=>simp[intOf];omega
    ·have aI3:j=64:=by omega
     subst aI3;have HXM:Hid (Bx wr m 69 cs'):=hZ ((HK.out.block m X3.out.lt (λe=>HMU.out e.symm)).trans X3.out);have c67:wr.cell? ⟨m,67,none⟩=some (.slice (some ⟨bd,od,none⟩) 64 cd):=by rw[HXM.out.cell];exact HD1.out
     have lm4:=HXM.out.lt;obtain⟨w4,hw4⟩:∃w4,w4=wr:=⟨_,rfl⟩;rw[<-hw4] at HU HK HXM c67 lm4⊢;clear hw4;rw[show((64:Nat):Int)=(64:Int) from rfl];go_wp2;clear c67 lm4;go_loopw [47] (λi wr=>∃j:Nat,j<=64/\i=.int .i64 j/\Hid (Bx wr ub 29 #[.int .i64 (uF S.1 64),.int .i64 (uS S.1 j)])/\Hid (bD (λb=>b=ub) w3 wr)) (λi _=>64 - (intOf i).toNat)
     case atStart=>exact⟨0,by omega,rfl,HU,HK⟩
     case round=>
      obtain⟨j,hj,rfl,HU5,HK5⟩:=hrel;by_cases hlt3:j<64
      ·obtain⟨x,hx⟩:∃x,xd[j]? =some x:=⟨_,List.getElem?_eq_getElem (by rw[HDL.out];exact hlt3)⟩
       obtain⟨s,hs⟩:∃s,S.1.dv[j]? =some s:=⟨_,List.getElem?_eq_getElem (by rw[De.out];exact hlt3)⟩;have Cx:=(HD3.out.2 j x s hx hs).r;obtain⟨aj,haj⟩:∃aj,aj=uS S.1 j:=⟨_,rfl⟩;have h1:=HRS.out s (List.mem_of_getElem? hs);have h2:=aGr De.out HRS.out j hj;have Te:Hid (uS S.1 (j+1)=aj+min s.r 1):=hZ (by rw[haj,aDX hs]);rw[<-haj] at h2 HU5;obtain⟨xr,xA,xn,xc,yA,yn,yc⟩:=x;simp only at Cx;rw[<-Cx] at h1 Te
       have HC:Hid (∀(q:Nat) (v:Value),(#[.int .i64 xr,.slice xA xn xc,.slice yA yn yc]:Array Value)[q]? =some v->wr.cell? ⟨bd,od+j*3+q,none⟩=some v):=hZ (λq v hv=>by
        rw[World.cell?_of_block (HK5.out.block bd HBD.out HNU.out)]
        exact HCD.out j _ hx q v (by simpa[fS] using hv))
       have Tm:Hid ((#[.int .i64 xr,.slice xA xn xc,.slice yA yn yc]:Array Value).size=3):=hZ rfl;have HCO:Hid ((#[.int .i64 xr,.slice xA xn xc,.slice yA yn yc]:Array Value).all (·.oneCell')=true):=hZ (by simp[Value.oneCell']);clear haj hx hs Cx;have c0:wr.cell? ⟨ub,1,none⟩=some (.int .i64 aj):=by rw[HU5.out.cell];rfl
       have f0:wr.frozen? ⟨ub,1,none⟩=false:=HU5.out.free _;have l0:ub<wr.heap.size:=HU5.out.lt;have Mf:IntKind.i64.wrap (aj+min xr 1)=aj+min xr 1:=by rw[IntKind.wrap_i64];omega
       go_upto_region 17 with(first
        |((with_reducible refine aCj Tryz.underlying71 rfl aHk bd (od+j*3) #[.int .i64 xr,.slice xA xn xc,.slice yA yn yc] ?_ ?_ HC.out Tm.out ?_);rfl;rfl)
        |((with_reducible refine uM aHk #[.int .i64 xr,.slice xA xn xc,.slice yA yn yc] ?_ ?_ rfl Tm.out HCO.out ?_);rfl;rfl))
       have hb5:=aD wr (.cells #[.int .i64 xr,.slice xA xn xc,.slice yA yn yc] 71);have BX5:Hid (Bx (wr.alloc (.cells #[.int .i64 xr,.slice xA xn xc,.slice yA yn yc] 71)) wr.heap.size 71 #[.int .i64 xr,.slice xA xn xc,.slice yA yn yc]):=hZ (Bx.new _ _ _);have HU6:=hZ (HU5.out.below hb5);have HK6:Hid (bD (λb=>b=ub) w3 (wr.alloc (.cells #[.int .i64 xr,.slice xA xn xc,.slice yA yn yc] 71))):=hZ (HK5.out.more hb5);obtain⟨q5,hq5⟩:∃q5,q5=wr.heap.size:=⟨_,rfl⟩;obtain⟨w5,nJ⟩:∃w5,w5=wr.alloc (.cells #[.int .i64 xr,.slice xA xn xc,.slice yA yn yc] 71):=⟨_,rfl⟩;rw[<-nJ,<-hq5] at BX5;rw[<-nJ] at HU6 HK6⊢;rw[<-hq5];clear nJ hq5 hb5 c0 f0 l0;have c0:w5.cell? ⟨ub,1,none⟩=some (.int .i64 aj):=by rw[HU6.out.cell];rfl
       have c1:w5.cell? ⟨q5,0,none⟩=some (.int .i64 xr):=by rw[BX5.out.cell];rfl
       have f0:w5.frozen? ⟨ub,1,none⟩=false:=HU6.out.free _;have l0:ub<w5.heap.size:=HU6.out.lt;have l1:q5<w5.heap.size:=BX5.out.lt;have Yf:Hid (Bx (w5.setCell ⟨ub,1,none⟩ (.int .i64 (aj+min xr 1))) ub 29 #[.int .i64 (uF S.1 64),.int .i64 (uS S.1 (j+1))]):=hZ (by rw[Te.out];exact HU6.out.set 1 _);have HK2:=hZ (HK6.out.cell (g:=ub) (.inl rfl) 1 (.int .i64 (aj+min xr 1)));go_wp2;go_roundw
       case rel=>exact⟨j+1,by omega,by go_num,Yf,HK2⟩
       case measure=>simp[intOf];omega
      ·have aI3:j=64:=by omega
       subst aI3;have HKB:Hid (bD (λb=>b=ub) w3 wr):=HK5
       have A5:Hid (Os Gl 4 35 wr w.heap.size u5 S.2):=hZ (by
        rcases A3.out with⟨q1,⟨q2,q3⟩|⟨g,cap,cur,e,hg,hh,q⟩⟩
        ·exact⟨q1,.inl ⟨q2,q3⟩⟩
        ·exact⟨q1,.inr ⟨g,cap,cur,e,hg,(HKB.out.block g (kM hh) (λe2=>gP (show Bx w3 g 35 cur from hh) HU3.out (by decide) e2)).trans hh,q⟩⟩)
       have R5:Hid (Bx wr w.heap.size 29 #[.int .i64 0,.int .i64 0]):=hZ ((HKB.out.block _ R3.out.lt (λe=>by have:=LU.out;omega)).trans R3.out);have L5:=hZ (L3.out.trans (HKB.out.below (B:=w.heap.size) (by rintro k rfl;exact Nat.le_of_lt LU.out) L3.out.size));have HUF:Hid (jJ S.1=uF S.1 64/\kU S.1=uS S.1 64):=hZ ⟨rfl,by unfold kU uS;rw[List.take_of_length_le (by rw[De.out];exact nR _)]⟩;obtain⟨aF,haF⟩:∃aF,aF=uF S.1 64:=⟨_,rfl⟩;obtain⟨aS,haS⟩:∃aS,aS=uS S.1 64:=⟨_,rfl⟩;rw[<-haF,<-haS] at HU5 HUF;clear haF haS;go_upto_region 19 with fail
       refine kD 3 [] (by kernel_rfl) (by kernel_rfl) (by kernel_rfl) ?_;intro V hV;simp only[List.take_succ_cons,List.take_zero,List.drop_succ_cons,List.drop_zero];refine rq rfl rfl ?_;go_big_quiet_step(fail);refine wpQuiet_nil ?_;refine rf (.agg #[.int .i64 aF,.int .i64 aS]) (by kernel_rfl) rfl (λw' hb hf=>nU rfl (lN Tryz.underlying29 rfl tJ (HU5.out.below hb) (Sub.all _) rfl)) ?_;go_big_quiet_step(fail);refine wpQuiet_nil ?_;refine rq rfl rfl ?_;go_big_quiet_step(fail);refine wpQuiet_nil ?_;refine rend ?_;intro w7 eX hf;clear hf hV;have R7:=hZ (R5.out.below eX);have A7:=hZ (A5.out.below eX (nR _));have L7:=hZ (L5.out.trans (eX.mono L5.out.size));have HZ2:Hid ((#[.int .i64 0,.int .i64 0]:Array Value).size=2):=hZ rfl;have HY2:Hid ((#[.int .i64 aF,.int .i64 aS]:Array Value).size=2):=hZ rfl;clear eX;refine fM tJ w.heap.size #[.int .i64 aF,.int .i64 aS] rfl rfl R7.out HZ2.out HY2.out (by simp[Value.oneCell']) ?_
       have A8:Hid (Os Gl 4 35 (w7.setRow w.heap.size #[.int .i64 aF,.int .i64 aS]) w.heap.size u5 S.2):=hZ (by
        rcases A7.out with⟨q1,⟨q2,q3⟩|⟨g,cap,cur,e,hg,hh,q⟩⟩
        ·exact⟨q1,.inl ⟨q2,q3⟩⟩
        ·exact⟨q1,.inr ⟨g,cap,cur,e,hg,Bx.kQ hh (gP (show Bx w7 g 35 cur from hh) R7.out (by decide)) _,q⟩⟩)
       have L8:=hZ (below_setRow L7.out (nR _) #[.int .i64 aF,.int .i64 aS]);have R8:=hZ (R7.out.row #[.int .i64 aF,.int .i64 aS]);go_wp2;try simp only[Exit.inBlock,Exit.then]
       refine bodyPost_ret (v:=.tuple #[u5,.agg #[.int .i64 aF,.int .i64 aS]]) ?_ rfl ?_;rotate_left
       ·exact⟨u5,by rw[<-HSX.out,HUF.out.1,HUF.out.2],by rw[<-HSX.out];exact A8.out,L8.out⟩
       ·rw[aT rfl];simp[asAddr,Result.andThen,Act.put,Yy Tryz.underlying29 rfl tJ R8.out (Sub.all _) HY2.out]
end
end Go.Proofs.YtoogfmbojlpjaaaGreat
namespace Go.Proofs.YtoogfmbojlpjaaaGreat
theorem aAI (v:Vm):(bE v).tl.length<=v.tl.length:=by
 unfold bE;split
 ·exact nR _
 ·have h:=Nu (wF v) (evS v) (kT v) 256
  generalize iJ (wF v) (evS v) (kT v) 256=u at h⊢;exact h
theorem aBy {r:Nat->Int} (h:∀n,n<64->0<=r n):(yN r=false->∃f:Nat,f<64/\r f=0/\frF r=f/\sD (gJ r)=(gJ (aO r f 1),(f:Int),0))/\(yN r=true->sD (gJ r)=(jA,0,4)):=by
 have hr:=aAi h;have e:=aKO (gJ r);unfold aB9 at e;rw[if_pos hr] at e;by_cases ht:(bQ (gJ r).f 0).2.2=0
 ·rw[if_pos ht] at e
  obtain⟨h1,h2,h3,h4,h5⟩:=Ub ht;obtain⟨r1,r2⟩:=Y9 h3;obtain⟨f,hf⟩:∃f:Nat,(bQ (gJ r).f 0).2.1=f:=⟨_,(Int.toNat_of_nonneg r1).symm⟩;have h6:=h5 f (Pj.2 hf.symm);rw[hf] at e r1 r2;have h7:=vJ hr (n:=f) (by omega);rw[qM.2 h6] at h7;have h8:r f=0:=by
   have:(r f==0)=true:=h7.symm;simpa using this
  refine⟨λ_=>⟨f,by omega,h8,by unfold frF;rw[e],by rw[e];simp[gJ]⟩,λhF=> ?_⟩;have:=List.all_eq_true.1 hF f (List.mem_range.2 (by omega));rw[h8] at this;exact absurd this (by decide)
 ·rw[if_neg ht] at e
  obtain⟨h1,h2⟩:=aGz hr ht;rw[h1] at e;refine⟨λhF=> ?_,λ_=>e⟩;have:yN r=true:=List.all_eq_true.2 λn hn=>by
   have:=aLL hr h2 (List.mem_range.1 hn);have h9:r n≠0:=this;simpa using h9
  rw[this] at hF;cases hF
def Hld (v:Vm) (x:Nat->Int):Prop:=∀f,f<64->x f≠0->v.fx f=true
theorem aAC {r:Nat->Int} (h:yN r=true) {n:Nat} (hn:n<64):r n≠0:=by
 have:=List.all_eq_true.1 h n (List.mem_range.2 hn);simpa using this
theorem aJh {r:Nat->Int} {n:Nat} (hn:n<64) (h:r n=0):yN r=false:=by
 cases e:yN r with
 |false=>rfl
 |true=>exact absurd h (aAC e hn)
theorem dX.rf0 {v:Vm} {x y:Nat->Int} {W:List Nat} (h:dX v x y W):∀f,f<64->0<=v.rf f:=λf hf=>by
 by_cases ht:∃t,t<36/\aI v t=f
 ·obtain⟨t,h1,h2⟩:=ht
  have:=(h.A.tf t h1 (by omega)).2;rw[h2,Int.toNat_natCast] at this;omega
 ·have h1:=h.A.fr f hf (λt h3 h4=>ht ⟨t,h3,h4⟩)
  have h2:=oJ (aA v) (1,(f:Int));have h3:=h.A.x0 f;omega
def Few (x:Nat->Int):Prop:=∀f,f<64->x f<=1
theorem dX.V9 {v:Vm} {x y:Nat->Int} {W:List Nat} (h:dX v x y W) (hw:Few x):kR v.rf:=λf hf=>by
 refine⟨h.rf0 f hf,?_⟩;by_cases ht:∃t,t<36/\aI v t=f
 ·obtain⟨t,h1,h2⟩:=ht
  have:=(h.A.tf t h1 (by omega)).2;rw[h2,Int.toNat_natCast] at this;omega
 ·have h1:=h.A.fr f hf (λt h3 h4=>ht ⟨t,h3,h4⟩)
  have h2:=h.A.four (z:=(1,(f:Int))) (by simp);have h3:=hw f hf;omega
theorem aGo {v:Vm} {f:Nat} (hf:f<64) (h:v.rf f=0):dL { v with rf:=aO v.rf f 1 } =dL v+1:=by
 have:=lW (f:=λg=>min (aO v.rf f 1 g) 1) (g:=λg=>min (v.rf g) 1) hf (λg _ hg=>by unfold aO;rw[if_neg hg]);unfold dL;simp only[vH,h] at this;show aM (λg=>min (aO v.rf f 1 g) 1) 64+_=_;have e:aM (λs=>min (eB { v with rf:=aO v.rf f 1 } s) 1) 64=aM (λs=>min (eB v s) 1) 64:=rfl;rw[e];omega
structure Tkd (v v1:Vm) (f:Nat) (x y:Nat->Int) (W:List Nat):Prop where
 ok:vE v f
 eq:dJ v= { v1 with rf:=aO v1.rf f 1 }
 c1:dX v1 x y W
 c:dX { v1 with rf:=aO v1.rf f 1 } (aO x f 1) y W
 l8:v1.tl.length<=8
 ke:Kee v v1
 r0:v1.rf f=0
 nt:∀t,t<36->aI v1 t≠f
 ce:dE (aA v1) (1,(f:Int))=0
 x0:x f=0
 us:dL v1=dL v
theorem Tv {v:Vm} {x y:Nat->Int} {W:List Nat} (h:dX v x y W) (hx:Hld v x) (hw:Few x) (hl:v.tl.length<=8) (hW:W.length<=4):∃v1 f,Tkd v v1 f x y W:=by
 have hr:=h.V9 hw;have fin:∀v1 (f:Nat),dJ v= { v1 with rf:=aO v1.rf f 1 } ->vE v f->dX v1 x y W->v1.tl.length<=8->Kee v v1->v1.rf f=0->dL v1=dL v->f<64->∃v1 f,Tkd v v1 f x y W:=λv1 f e ok c1 l8 ke r0 us hf=>by
  obtain⟨a1,a2,a3,a4⟩:=c1.A.take hf r0;exact⟨v1,f,ok,e,c1,⟨c1.T,⟨c1.F.tl,c1.F.tb,c1.F.dl,c1.F.ds,c1.F.ul,c1.F.h0,c1.F.h1⟩,a4,c1.L⟩,l8,ke,r0,a1,a2,a3,us⟩
 obtain⟨t1,t2⟩:=aBy (λn hn=>(hr n hn).1);cases hF:yN v.rf with
 |false=>
  obtain⟨f,hf,f0,hfr,hT⟩:=t1 hF;have hN:takeN v=f:=by unfold takeN;rw[hF,if_neg (by simp)];exact hfr
  have hV:dJ v= { v with rf:=aO v.rf f 1 } :=by unfold dJ;rw[hF,if_neg (by simp)];unfold sW;rw[hfr,Int.toNat_natCast]
  exact fin v f hV ⟨hN,hf,h.F.tb,hr,by omega,by rw[hV];exact h.T.zb,.inl ⟨hF,hT⟩⟩ h hl (Kee.refl v) f0 rfl hf
 |true=>
  have hb:zL v=true:=by
   obtain⟨f,hf,hfx⟩:=h.A.loose hW
   have h1:=aIF (hd:=v.hd) (may:=dR v) (us:=v.us) (aCe v) h.F.ul h.F.h0 h.F.h1 (f:=f) (by
    rw[aG9 v hf,hfx];have:=aAC hF hf;have:=(hr f hf).1
    simp;omega)
   unfold zL;rw[h1];rfl
  obtain⟨F,S,e1,e2,e3,e4,e5⟩:=aCX h hx hb;have hr2:=e2.V9 hw;have F0:(bE v).rf F=0:=by rw[e5 F e1.fl,if_pos rfl]
  have hF2:=aJh e1.fl F0;obtain⟨f,hf,f0,hfr,hT⟩:=(aBy (λn hn=>(hr2 n hn).1)).1 hF2;have hN:takeN v=f:=by unfold takeN;rw[hF,if_pos rfl];exact hfr
  have hV:dJ v= { bE v with rf:=aO (bE v).rf f 1 } :=by unfold dJ;rw[hF,if_pos rfl];unfold sW;rw[hfr,Int.toNat_natCast]
  exact fin (bE v) f hV ⟨hN,hf,h.F.tb,hr,by omega,by rw[hV];exact e2.T.zb,.inr ⟨hF,t2 hF,⟨F,S,e1⟩,hr2,hT⟩⟩ e2 (Nat.le_trans (aAI v) hl) e3 f0 e4 hf
section
section
variable {v u:Vm} {x y:Nat->Int} {W:List Nat}
theorem dX.dif (h:dX v x y W) {f:Nat} (hf:f<64) (nt:∀t,t<36->aI v t≠f) {zs':List Int} (hd:Jy f v.zs zs') (hb:Bytes zs'):
 dX { v with zs:=zs' } x y W/\(∀i,i<256->aA { v with zs:=zs' } i=aA v i)/\(∀t,t<36->aI { v with zs:=zs' } t=aI v t)/\
 (∀k,k<4->(v.ps k).live=true->∀p:Nat,p<64->aG zs' (v.ps k).root p=aG v.zs (v.ps k).root p/\aK zs' (v.ps k).root p=aK v.zs (v.ps k).root p):=by
 have hs:=aBf.dif h.T (Ur nt) hd;have hE:=aAK (v:=v) (v':= { v with zs:=zs' }) rfl (λk hk hv p hp=>(hs.en k hk hv p hp).2);have hT:=aAc (v:=v) (v':= { v with zs:=zs' }) rfl hs.lf;refine⟨⟨h.T.same (by rw[hd.1];exact h.T.zl) hb hs,⟨h.F.tl,h.F.tb,h.F.dl,h.F.ds,h.F.ul,h.F.h0,h.F.h1⟩,h.A.congr hE hT (λ_ _=>rfl) (λ_ _=>rfl) (λ_ _=>rfl),λc hc=> ?_⟩,hE,hT,hs.lf⟩;obtain⟨i,hi,c1,c2,c3,c4⟩:=h.L c hc;exact⟨i,hi,c1,c2,c3,by rw[hE i hi];exact c4⟩
theorem dX.Xm (h:dX v x y W) {f:Nat} (ce:dE (aA v) (1,(f:Int))=0) {i:Nat} (hi:i<256):aA v i≠(1,(f:Int)):=λe=>by
 have:=iW hi e;omega
theorem dX.jP (h:dX v x y W) {i:Nat} (hi:i<256):0<=(aA v i).1/\(aA v i).1<=2/\0<=(aA v i).2/\(aA v i).2<64:=by
 have:=nH (h.A.er i hi);omega
structure Fil (v u:Vm) (f:Nat) (b t:List Int) (x y:Nat->Int) (W:List Nat):Prop where
 c:dX u x y W
 en:∀i,i<256->aA u i=aA v i
 tab:∀t,t<36->aI u t=aI v t
 cb:∀i,i<256->∀n,n<64->cb u i n=cb v i n
 ct:∀i,i<256->∀g,g<4->ct u i g=ct v i g
 lf:∀k,k<4->(v.ps k).live=true->∀p:Nat,p<64->aG u.zs (v.ps k).root p=aG v.zs (v.ps k).root p/\aK u.zs (v.ps k).root p=aK v.zs (v.ps k).root p
 Hg:∀n,n<64->u.zs.getD (((f:Int)*64).toNat+n) 0=b.getD n 0
 tg:∀g:Nat,g<4->dZ u.ts ((f:Int)*4+(g:Int))=t.getD g 0
 oth:∀g:Nat,g<64->g≠f->(∀n,n<64->u.zs.getD (((g:Int)*64).toNat+n) 0=v.zs.getD (((g:Int)*64).toNat+n) 0)/\∀q:Nat,q<4->dZ u.ts ((g:Int)*4+(q:Int))=dZ v.ts ((g:Int)*4+(q:Int))
theorem aEA (h:dX v x y W) {f:Nat} (hf:f<64) (nt:∀t,t<36->aI v t≠f) (ce:dE (aA v) (1,(f:Int))=0) {b t:List Int} (hb:b=[]\/b.length=64) (hB:Bytes b) (hT:aBd t):Fil v (iM v f b t) f b t x y W:=by
 have hl:=h.T.zl;have hd:=aJu hl (show(0:Int)<=f by omega) (show(f:Int)<64 by omega) b (by rcases hb with rfl|hb;simp;omega);have hbb:=Wh b (lZ v.zs ((f:Int)*64).toNat 64) ((f:Int)*64).toNat (Nj h.T.zb _ _) hB;obtain⟨c1,e1,t1,l1⟩:=h.dif hf nt hd hbb;have htl:(mV v.ts f t 4).length=128:=by rw[Lh];exact h.F.tl
 have htb:=E5 h.F.tb f hT 4;have hbyte:∀n,n<64->(iM v f b t).zs.getD (((f:Int)*64).toNat+n) 0=b.getD n 0:=λn hn=>aHx hl (by omega) (by omega) b hb hn;have htag:∀(g:Nat) (q:Nat),g<64->q<4->dZ (mV v.ts f t 4) ((g:Int)*4+(q:Int))=if g=f then t.getD q 0 else dZ v.ts ((g:Int)*4+(q:Int)):=λg q hg hq=>by
  rw[aAG h.F.tl h.F.tb (show(0:Int)<=f by omega) (show(f:Int)<64 by omega) (by omega) (by omega) hT 4 (nR _)];by_cases e:g=f
  ·subst e;rw[if_pos (by omega),if_pos rfl,show((g:Int)*4+(q:Int) - (g:Int)*4).toNat=q by omega]
  ·rw[if_neg (by omega),if_neg e]
 have hoth:∀g:Nat,g<64->g≠f->(∀n,n<64->(iM v f b t).zs.getD (((g:Int)*64).toNat+n) 0=v.zs.getD (((g:Int)*64).toNat+n) 0)/\∀q:Nat,q<4->dZ (iM v f b t).ts ((g:Int)*4+(q:Int))=dZ v.ts ((g:Int)*4+(q:Int)):=λg hg hne=>
  ⟨λn hn=>hd.byte (by omega) (by omega) hn,λq hq=>by show dZ (mV v.ts f t 4) _=_;rw[htag g q hg hq,if_neg hne]⟩
 have hE:∀i,i<256->aA (iM v f b t) i=aA v i:=e1;have hN:∀i,i<256->(aA v i).1=1->∃g:Nat,(aA v i).2=g/\g<64/\g≠f:=λi hi h1=>by
  have hr:=h.jP hi;refine⟨(aA v i).2.toNat,by omega,by omega,λe=>h.Xm ce hi (Prod.ext h1 ?_)⟩;show(aA v i).2=(f:Int);omega
 refine⟨⟨c1.T,⟨htl,htb,h.F.dl,h.F.ds,h.F.ul,h.F.h0,h.F.h1⟩,c1.A,c1.L⟩,hE,t1,λi hi n hn=> ?_,λi hi g hg=> ?_,l1,hbyte,λg hg=> ?_,hoth⟩
 ·unfold cb
  rw[hE i hi];by_cases h1:(aA v i).1=1
  ·obtain⟨g,hg,hg2,hg3⟩:=hN i hi h1
   rw[if_pos h1,if_pos h1,hg];exact(hoth g hg2 hg3).1 n hn
  ·rw[if_neg h1,if_neg h1];rfl
 ·unfold ct
  rw[hE i hi];by_cases h1:(aA v i).1=1
  ·obtain⟨q,hq,hq2,hq3⟩:=hN i hi h1
   rw[if_pos h1,if_pos h1,hq];exact(hoth q hq2 hq3).2 g hg
  ·rw[if_neg h1,if_neg h1];rfl
 ·show dZ (mV v.ts f t 4) _=_;rw[htag f g hf hg,if_pos rfl]
end
section
variable {e:Nat->iD} {tb:Nat->Int} {rf rf':Nat->Int} {fx:Nat->Bool} {sr Ob:Nat->Int} {x y x':Nat->Int} {W W':List Nat}
theorem iH.weak (h:iH e tb rf fx sr x y W) (hw:∀f∈W,f∈W'):iH e tb rf fx sr x y W':=
 ⟨h.er,h.x0,h.y0,h.tr,h.td,h.tf,h.et,h.fr,h.sy,h.y1,h.pg,h.all,λf hf h1=>(h.fw f hf h1).imp id (hw f),h.lf⟩
theorem iH.set (h:iH e tb rf fx sr x y W) {i:Nat} (hi:i<256) {K N:Int} (hp:cB K N=0) (h1:K=1->∀t,t<36->tb t≠N)
 (hx:∀g:Nat,g<64->x' g=x g -ind ((K,N)=(1,(g:Int)))) (hx0:∀g,0<=x' g) (hy:∀s:Nat,s<64->y s=ind ((K,N)=(2,(s:Int))))
 (Cy:K≠0->∀j,j<256->j≠i->e j=(K,N)->j%64=i%64) (hall:full (qV e i (K,N))<=64) (hlf:K≠0->tb (9*(i/64)+1+i%64/8)≠ -1)
 (hr:∀g:Nat,g<64->rf' g=rf g -ind (e i=(1,(g:Int)))) (hs:∀s:Nat,s<64->Ob s=sr s -ind (e i=(2,(s:Int)))):iH (qV e i (K,N)) tb rf' fx Ob x' (λ_=>0) W where
 er:=λj hj=>by
  by_cases c:j=i
  ·subst c;rw[pM];exact hp
  ·rw[jB _ _ c];exact h.er j hj
 x0:=hx0
 y0:=λ_=>Int.le_refl _
 tr:=h.tr
 td:=h.td
 tf:=λt ht hne=>by
  obtain⟨a,b⟩:=h.tf t ht hne;have c:=h.tr t ht;refine⟨a,?_⟩;rw[hr _ (by omega),b,aY];rfl;intro c2;have:=h.et i hi (by rw[c2]) t ht;rw[c2] at this;exact this (by show tb t=(((tb t).toNat:Nat):Int);omega)
 et:=λj hj h2 t ht=>by
  by_cases c:j=i
  ·subst c;rw[pM] at h2⊢;exact h1 h2 t ht
  ·rw[jB _ _ c] at h2⊢;exact h.et j hj h2 t ht
 fr:=λg hg hn=>by
  have a:=h.fr g hg hn;rw[aC8 hi,hr g hg,hx g hg];omega
 sy:=λs hs'=>by
  have a:=h.sy s hs';have b:=hy s hs';rw[aC8 hi,hs s hs'];omega
 y1:=λs hs' h2=>absurd h2 (Int.lt_irrefl 0)
 pg:=λj hj l hl h2 h3=>by
  by_cases c:j=i<;>by_cases d:l=i
  ·rw[c,d]
  ·subst c
   rw[pM] at h2 h3;rw[jB _ _ d] at h2;exact(Cy h3 l hl d h2.symm).symm
  ·subst d
   rw[pM,jB _ _ c] at h2;rw[jB _ _ c,h2] at h3;exact Cy h3 j hj c h2
  ·rw[jB _ _ c,jB _ _ d] at h2;rw[jB _ _ c] at h3
   exact h.pg j hj l hl h2 h3
 all:=hall
 fw:=h.fw
 lf:=λj hj h2=>by
  by_cases c:j=i
  ·subst c;rw[pM] at h2;exact hlf h2
  ·rw[jB _ _ c] at h2;exact h.lf j hj h2
end
section
variable {v u:Vm} {x y x':Nat->Int} {W:List Nat}
theorem dX.swap (h:dX v x y W) {k:Nat} (hk:k<4) (hv:(v.ps k).live=true) {p:Nat} (hp:p<64) (hf:aG v.zs (v.ps k).root p=0) {K N:Int} (hP:cB K N=0) (h1:K=1->∀t,t<36->aI v t≠N)
 (hx:∀g:Nat,g<64->x' g=x g -ind ((K,N)=(1,(g:Int)))) (hx0:∀g,0<=x' g) (hy:∀s:Nat,s<64->y s=ind ((K,N)=(2,(s:Int))))
 (Cy:K≠0->∀j,j<256->j≠64*k+p->aA v j=(K,N)->j%64=p) (hall:full (qV (aA v) (64*k+p) (K,N))<=64)
 (uz:u.zs=(eT v k p K N).zs) (ut:u.tl=(eT v k p K N).tl) (up:u.ps=v.ps) (uf:∀g,g<64->u.fx g=v.fx g) (uF:Fmt u)
 (hr:∀g:Nat,g<64->u.rf g=v.rf g -ind (aA v (64*k+p)=(1,(g:Int)))) (hs:∀s:Nat,s<64->eB u s=eB v s -ind (aA v (64*k+p)=(2,(s:Int)))):
 dX u x' (λ_=>0) W/\(∀i,i<256->aA u i=qV (aA v) (64*k+p) (K,N) i)/\(∀t,t<36->aI u t=aI v t)/\
 (∀k',k'<4->(v.ps k').live=true->∀p':Nat,p'<64->aG u.zs (v.ps k').root p'=aG v.zs (v.ps k').root p'/\aK u.zs (v.ps k').root p'=aK v.zs (v.ps k').root p'):=by
 obtain⟨a1,a2,a3,a4,a5,a6,a7⟩:=zT h.T h.L hk hv hp hf hP;have hE:∀i,i<256->aA u i=qV (aA v) (64*k+p) (K,N) i:=λi hi=>by
  rw[<-a5 i hi];unfold aA gF;rw[up,uz];rfl
 have hT:∀t,t<36->aI u t=aI v t:=λt ht=>by
  rw[<-a6 t ht];unfold aI;rw[up,uz];rfl
 have hA:=h.A.set (i:=64*k+p) (by omega) hP h1 hx hx0 hy (λhK j hj hne he=>by rw[Cy hK j hj hne he];omega) hall (λ_=>by
  rw[show(64*k+p)/64=k by omega,show(64*k+p)%64=p by omega,pW hv hp,if_pos hf];have:=wZ v.zs (v.ps k).root p
  omega) hr hs
 refine⟨⟨by rw[uz,up];exact a3,uF,hA.congr hE hT (λ_ _=>rfl) uf (λ_ _=>rfl),λc hc=> ?_⟩,hE,hT,by rw[uz];exact a4⟩;rw[ut] at hc;obtain⟨i,hi,c1,c2,c3,c4⟩:=a7 c hc;refine⟨i,hi,c1,c2,c3,?_⟩;rw[hE i hi,<-a5 i hi];exact c4
end
end
structure Kep (v v':Vm):Prop where
 ps:v'.ps=v.ps
 cb:∀i,i<256->∀n,n<64->cb v' i n=cb v i n
 ct:∀i,i<256->∀g,g<4->ct v' i g=ct v i g
 no:∀i,i<256->((aA v' i).1=0↔(aA v i).1=0)
 held:∀i,i<256->(aA v i).1=1->v.fx (aA v i).2.toNat=true->aA v' i=aA v i
 out:∀i,i<256->(aA v i).1=2->aA v' i=aA v i
 rf:∀f,f<64->v.fx f=true->v.rf f≠0->v'.rf f=v.rf f
 fx:∀f,f<64->v.fx f=true->v'.fx f=true
 byte:∀f:Nat,f<64->v.fx f=true->v.rf f≠0->(∀t,t<36->aI v t≠f)->∀n,n<64->v'.zs.getD (((f:Int)*64).toNat+n) 0=v.zs.getD (((f:Int)*64).toNat+n) 0
 tag:v'.ts=v.ts
 lf:∀k,k<4->(v.ps k).live=true->∀p:Nat,p<64->aG v.zs (v.ps k).root p=0->aG v'.zs (v.ps k).root p=0
theorem Kep.refl (v:Vm):Kep v v:=⟨rfl,λ_ _ _ _=>rfl,λ_ _ _ _=>rfl,λ_ _=>Iff.rfl,λ_ _ _ _=>rfl,λ_ _ _=>rfl,λ_ _ _ _=>rfl,λ_ _ h=>h,λ_ _ _ _ _ _ _=>rfl,rfl,λ_ _ _ _ _ h=>h⟩
theorem Ja {v v':Vm} (h:∀t,t<36->aI v' t=aI v t) {f:Int} (hn:∀t,t<36->aI v t≠f):∀t,t<36->aI v' t≠f:=λt ht=>by rw[h t ht];exact hn t ht
theorem Ff {v v':Vm} (h:∀i,i<256->aA v' i=aA v i) (z:iD):dE (aA v') z=dE (aA v) z:=vO λi hi=>by rw[h i hi]
theorem xH {v v':Vm} (h1:v'.rf=v.rf) (h2:v'.dv=v.dv):dL v'=dL v:=by unfold dL eB sl;rw[h1,h2]
structure Tbd (v v':Vm) (f:Nat) (x y:Nat->Int) (W:List Nat):Prop where
 ok:vE v f
 c:dX v' (aO x f 1) y (f::W)
 l8:v'.tl.length<=8
 ke:Kep v v'
 fx:v'.fx f=true
 r1:v'.rf f=1
 r0:∀g,g<64->v.fx g=true->v.rf g≠0->g≠f
 nt:∀t,t<36->aI v' t≠f
 ce:dE (aA v') (1,(f:Int))=0
 x0:x f=0
 zr:∀j:Int,0<=j->j<8->mO v'.zs f j=0/\pG v'.zs f j=0/\rH v'.zs f j=0
 us:dL v'=dL v+1
 tab:∀t,t<36->aI v' t=aI v t
 lfe:∀k,k<4->(v.ps k).live=true->∀p:Nat,p<64->aG v'.zs (v.ps k).root p=aG v.zs (v.ps k).root p/\aK v'.zs (v.ps k).root p=aK v.zs (v.ps k).root p
theorem Z0 {v:Vm} {x y:Nat->Int} {W:List Nat} (h:dX v x y W) (hx:Hld v x) (hw:Few x) (hl:v.tl.length<=8) (hW:W.length<=4):∃f,Tbd v (aQ v) f x y W:=by
 obtain⟨v1,f,t⟩:=Tv h hx hw hl hW;have hf:=t.ok.l;have hzl:=t.c1.T.zl;have hd:=aEF hzl (show(0:Int)<=f by omega) (show(f:Int)<64 by omega);have e:aQ v= { ({ v1 with rf:=aO v1.rf f 1 } :Vm) with fx:=dV v1.fx f true,zs:=tX v1.zs f } :=by
  unfold aQ;rw[t.eq,t.ok.n,Int.toNat_natCast]
 have hB:Bytes (tX v1.zs f):=by rw[aC9 hzl (by omega) (by omega)];exact Nj t.c1.T.zb _ _
 obtain⟨c1,e1,t1,l1⟩:=t.c.dif hf t.nt hd hB;have hE:∀i,i<256->aA (aQ v) i=aA v1 i:=λi hi=>by rw[e];exact e1 i hi
 have hT:∀q,q<36->aI (aQ v) q=aI v1 q:=λq hq=>by rw[e];exact t1 q hq
 have ke:=t.ke;have hby:∀g:Nat,g<64->g≠f->∀n,n<64->(aQ v).zs.getD (((g:Int)*64).toNat+n) 0=v1.zs.getD (((g:Int)*64).toNat+n) 0:=λg hg hne n hn=>by
  rw[e];exact hd.byte (by omega) (by omega) hn
 have hN:∀i,i<256->(aA v1 i).1=1->∃g:Nat,(aA v1 i).2=g/\g<64/\g≠f:=λi hi h1=>by
  have hr:=t.c1.jP hi;refine⟨(aA v1 i).2.toNat,by omega,by omega,λe=>t.c1.Xm t.ce hi (Prod.ext h1 ?_)⟩;show(aA v1 i).2=(f:Int);omega
 have hlf:∀k,k<4->(v.ps k).live=true->∀p:Nat,p<64->aG (aQ v).zs (v.ps k).root p=aG v.zs (v.ps k).root p/\aK (aQ v).zs (v.ps k).root p=aK v.zs (v.ps k).root p:=λk hk hv p hp=>by
  have hp1:(v1.ps k).live=true:=by rw[ke.ps];exact hv
  have e2:=l1 k hk hp1 p hp;simp only at e2;rw[ke.ps] at e2;obtain⟨q1,q2⟩:=ke.lf k hk hv p hp;rw[e];exact⟨e2.1.trans q1,e2.2.trans q2⟩
 have hr0:∀g,g<64->v.fx g=true->v.rf g≠0->g≠f:=λg hg h1 h2 hh=>by
  subst hh;exact h2 ((ke.rf g hg h1).symm.trans t.r0)
 refine⟨f,t.ok,?_,?_,⟨?_,λi hi n hn=> ?_,λi hi g hg=> ?_,λi hi=> ?_,λi hi h1 h2=> ?_,λi hi h1=> ?_,λg hg h1 h2=> ?_,λg hg h1=> ?_,λg hg h1 h2 h3 n hn=> ?_,?_,λk hk hv p hp h0=> ?_⟩,?_,?_,hr0,Ja hT t.nt,by rw[Ff hE];exact t.ce,t.x0,?_,?_,λq hq=>by rw[hT q hq,ke.tab q hq],hlf⟩
 ·rw[e];exact⟨c1.T,⟨c1.F.tl,c1.F.tb,c1.F.dl,c1.F.ds,c1.F.ul,c1.F.h0,c1.F.h1⟩,c1.A.hold f,c1.L⟩
 ·rw[e];exact t.l8
 ·rw[e];exact ke.ps
 ·rw[<-ke.cb i hi n hn]
  unfold cb;rw[hE i hi];by_cases h1:(aA v1 i).1=1
  ·obtain⟨g,g1,g2,g3⟩:=hN i hi h1
   rw[if_pos h1,if_pos h1,g1];exact hby g g2 g3 n hn
  ·rw[if_neg h1,if_neg h1,e];rfl
 ·rw[<-ke.ct i hi g hg]
  unfold ct;rw[hE i hi,e];rfl
 ·rw[hE i hi];exact ke.no i hi
 ·rw[hE i hi];exact ke.held i hi h1 h2
 ·rw[hE i hi];exact ke.out i hi h1
 ·rw[e];show aO v1.rf f 1 g=_
  unfold aO;rw[if_neg (hr0 g hg h1 h2)];exact ke.rf g hg h1
 ·rw[e];show dV v1.fx f true g=true
  unfold dV;split
  ·rfl
  ·rw[ke.fx];exact h1
 ·rw[hby g hg (hr0 g hg h1 h2) n hn];exact ke.byte g hg h3 n hn
 ·rw[e];exact ke.tag
 ·rw[(hlf k hk hv p hp).1];exact h0
 ·rw[e];show dV v1.fx f true f=true;unfold dV;rw[if_pos rfl]
 ·rw[e];exact vH _ _ _
 ·intro j j0 j1
  rw[e];exact aNy hzl (by omega) (by omega) j0 j1
 ·rw[<-t.us,<-aGo hf t.r0,e];rfl
def j4 (v:Vm):Int:=aM (λt=>ind (aI v t≠ -1)) 36
structure Lfy (v v':Vm) (k p:Nat) (x y:Nat->Int) (W:List Nat):Prop where
 lf:aG v.zs (v.ps k).root p=0\/(aG v.zs (v.ps k).root p=3/\∃f,vE v f/\Bytes (aQ v).zs/\wM (aQ v).zs (v.ps k).root p f=0)
 c:dX v' x y W
 l8:v'.tl.length<=8
 ke:Kep v v'
 h0:aG v'.zs (v.ps k).root p=0
 us:dL v<=dL v'/\dL v' -dL v=j4 v' -j4 v
 nt:∀g:Nat,g<64->v.fx g=true->v.rf g≠0->(∀t,t<36->aI v t≠g)->∀t,t<36->aI v' t≠g
 tab:∀t,t<36->t≠9*k+1+p/8->aI v' t=aI v t
theorem aCh {v:Vm} {x y:Nat->Int} {W:List Nat} (h:dX v x y W) (hx:Hld v x) (hw:Few x) (hl:v.tl.length<=8) (hW:W.length<=4) {k:Nat} (hk:k<4) (hv:(v.ps k).live=true) {p:Nat} (hp:p<64):Lfy v (bG v k p) k p x y W:=by
 rcases h.T.leaf k hk hv p hp with h0|h3
 ·have e:bG v k p=v:=by unfold bG;rw[h0,if_neg (by decide)]
  rw[e];exact⟨.inl h0,h,hl,Kep.refl v,h0,⟨Int.le_refl _,by omega⟩,λ_ _ _ _ h=>h,λ_ _ _=>rfl⟩
 ·obtain⟨f,t⟩:=Z0 h hx hw hl hW
  have hf:=t.ok.l;have e:bG v k p= { aQ v with zs:=mU (aQ v).zs (v.ps k).root p f } :=by unfold bG;rw[h3,if_pos rfl,t.ok.n]
  have hps:=t.ke.ps;have hv2:((aQ v).ps k).live=true:=by rw[hps];exact hv
  have hr2:((aQ v).ps k).root=(v.ps k).root:=by rw[hps]
  have aOL:=t.lfe k hk hv p hp;have hL2:aG (aQ v).zs ((aQ v).ps k).root p=3:=by rw[hr2,aOL.1];exact h3
  obtain⟨a1,a2,a3,a4,a5,a6⟩:=t.c.T.hang hk hv2 hp hL2 (show(0:Int)<=f by omega) (by omega) (Ur t.nt) t.zr;rw[hr2] at a1 a2 a3 a4 a5 a6;obtain⟨z3,hz3⟩:∃z3,z3=mU (aQ v).zs (v.ps k).root p f:=⟨_,rfl⟩;rw[<-hz3] at a2 a3 a4 a5 a6 e;have hE:∀i,i<256->aA (bG v k p) i=aA (aQ v) i:=λi hi=>by
   rw[e];exact aAK (v:=aQ v) (v':= { aQ v with zs:=z3 }) rfl a6 i hi
  have hT:∀q,q<36->aI (bG v k p) q=if q=9*k+1+p/8 then(f:Int) else aI (aQ v) q:=λq hq=>by
   rw[e];obtain⟨k',hk',hs⟩:=aAb hq;cases hv':((aQ v).ps k').live with
   |false=>
    have hne:k'≠k:=λh=>by rw[h,hv2] at hv';cases hv'
    have hq9:q/9=k':=by rcases hs with rfl|⟨p',hp',rfl⟩<;>omega
    rw[xI (v:= { aQ v with zs:=z3 }) (by rw[hq9];exact hv'),xI (by rw[hq9];exact hv'),if_neg (by omega)]
   |true=>
    rcases hs with rfl|⟨p',hp',rfl⟩
    ·rw[if_neg (by omega),pV (v:= { aQ v with zs:=z3 }) hv',pV hv']
    ·rw[pW (v:= { aQ v with zs:=z3 }) hv' hp',pW hv' hp']
     by_cases c:k'≠k\/p'/8≠p/8
     ·obtain⟨b1,b2⟩:=a4 k' hk' hv' p' hp' c
      have hq':¬(9*k'+1+p'/8=9*k+1+p/8):=by omega
      rw[if_neg hq'];show(if aG z3 ((aQ v).ps k').root p'=0 then aK z3 ((aQ v).ps k').root p' else -1)=_;rw[b1,b2]
     ·obtain rfl:k'=k:=by omega
      obtain⟨b1,b2,b3⟩:=a5 p' hp' (by omega);have hq':9*k'+1+p'/8=9*k'+1+p/8:=by omega
      rw[if_pos hq'];show(if aG z3 ((aQ v).ps k').root p'=0 then aK z3 ((aQ v).ps k').root p' else -1)=_;rw[hr2,b1,b2,if_pos rfl]
  have hq0:aI (aQ v) (9*k+1+p/8)= -1:=by rw[pW hv2 hp,hL2,if_neg (by decide)]
  have hA:=t.c.A.table hf (q:=9*k+1+p/8) (by omega) hq0 t.nt t.fx (vH _ _ _) t.ce t.r1 hT;rw[T9,Nt t.x0] at hA;have hA2:=hA.weak (W':=W) λg hg=>by
   obtain⟨g1,g2⟩:=List.mem_filter.1 hg;rcases List.mem_cons.1 g1 with rfl|g1
   ·simp at g2
   ·exact g1
  have hne:∀g:Nat,g<64->(∀q,q<36->aI (aQ v) q≠g)->∀n,n<64->z3.getD (((g:Int)*64).toNat+n) 0=(aQ v).zs.getD (((g:Int)*64).toNat+n) 0:=λg hg hn n hn'=>
   a2.byte (λh=>hn (9*k) (by omega) (by rw[pV hv2,hr2];exact h.symm)) (by omega) hn'
  have c2:=t.c;refine⟨.inr ⟨h3,f,t.ok,c2.T.zb,a1⟩,?_,?_,⟨?_,λi hi n hn=> ?_,λi hi g hg=> ?_,λi hi=> ?_,λi hi h1 h2=> ?_,λi hi h1=> ?_,λg hg h1 h2=> ?_,λg hg h1=> ?_,λg hg h1 h2 h4 n hn=> ?_,?_,λk' hk' hv' p' hp' h0=> ?_⟩,?_,?_,λg hg g1 g2 g3 q hq=> ?_,λq hq hne=>by rw[hT q hq,if_neg hne,t.tab q hq]⟩
  ·refine⟨?_,?_,?_,λc hc=> ?_⟩
   ·rw[e];exact a3
   ·rw[e];exact⟨c2.F.tl,c2.F.tb,c2.F.dl,c2.F.ds,c2.F.ul,c2.F.h0,c2.F.h1⟩
   ·exact hA2.congr hE (λ_ _=>rfl) (λ_ _=>by rw[e]) (λ_ _=>by rw[e]) (λ_ _=>by rw[e];rfl)
   ·rw[e] at hc
    obtain⟨i,hi,d1,d2,d3,d4⟩:=c2.L c hc;exact⟨i,hi,d1,d2,d3,by rw[hE i hi];exact d4⟩
  ·rw[e];exact t.l8
  ·rw[e];exact hps
  ·rw[<-t.ke.cb i hi n hn]
   unfold cb;rw[hE i hi];by_cases h1:(aA (aQ v) i).1=1
   ·have hr:=c2.jP hi
    obtain⟨g,hg⟩:∃g:Nat,(aA (aQ v) i).2=g:=⟨_,(Int.toNat_of_nonneg hr.2.2.1).symm⟩;rw[if_pos h1,if_pos h1,hg,e];exact hne g (by omega) (λq hq=>by rw[<-hg];exact c2.A.et i hi h1 q hq) n hn
   ·rw[if_neg h1,if_neg h1,e];rfl
  ·rw[<-t.ke.ct i hi g hg]
   unfold ct;rw[hE i hi,e];rfl
  ·rw[hE i hi];exact t.ke.no i hi
  ·rw[hE i hi];exact t.ke.held i hi h1 h2
  ·rw[hE i hi];exact t.ke.out i hi h1
  ·rw[e];exact t.ke.rf g hg h1 h2
  ·rw[e];exact t.ke.fx g hg h1
  ·rw[<-t.ke.byte g hg h1 h2 h4 n hn,e]
   exact hne g hg (Ja t.tab h4) n hn
  ·rw[e];exact t.ke.tag
  ·have hv3:((aQ v).ps k').live=true:=by rw[hps];exact hv'
   rw[e];show aG z3 (v.ps k').root p'=0;by_cases c:k'≠k\/p'/8≠p/8
   ·have:=(a4 k' hk' hv3 p' hp' c).1
    rw[hps] at this;rw[this,(t.lfe k' hk' hv' p' hp').1];exact h0
   ·obtain rfl:k'=k:=by omega
    exact(a5 p' hp' (by omega)).1
  ·rw[e];exact(a5 p hp rfl).1
  ·have hu:dL (bG v k p)=dL v+1:=by rw[<-t.us];exact xH (by rw[e]) (by rw[e])
   have hn1:j4 (bG v k p)=j4 v+1:=by
    unfold j4;have h5:=lW (f:=λq=>ind (aI (bG v k p) q≠ -1)) (g:=λq=>ind (aI v q≠ -1)) (j:=9*k+1+p/8) (n:=36) (by omega) (λq hq hne=>by rw[hT q hq,if_neg hne,t.tab q hq]);rw[hT _ (by omega),if_pos rfl,<-t.tab _ (by omega),hq0,bP (by omega),aY (by omega)] at h5;omega
   omega
  ·rw[hT q hq]
   split
   ·have:=t.r0 g hg g1 g2;omega
   ·rw[t.tab q hq];exact g3 q hq
section
theorem Lb {K K':Int} {a b:Nat} :ind ((K,(a:Int))=(K',(b:Int)))=if K=K'/\a=b then 1 else 0:=by
 by_cases h:K=K'/\a=b
 ·rw[if_pos h,bP (by rw[h.1,h.2])]
 ·rw[if_neg h,aY (λe=>h ⟨congrArg Prod.fst e,by have:=congrArg Prod.snd e;simp at this;omega⟩)]
theorem Rx (s:gT) (b:Int):(bump s b).r=s.r+b:=by
 unfold bump;split
 ·next h=>exact h.symm
 ·rfl
theorem aAX {s:gT} {b:Int} (h:0<(bump s b).r):(bump s b).b=s.b/\(bump s b).t=s.t:=by
 rw[Rx] at h;unfold bump;rw[if_neg (by omega)];exact⟨rfl,rfl⟩
theorem aED {e:Nat->iD} {i:Nat} (h:cB (e i).1 (e i).2=0):∃(N:Nat),N<64/\(e i).2=N/\((e i).1=0/\N=0\/(e i).1=1\/(e i).1=2):=by
 have:=nH h;exact⟨(e i).2.toNat,by omega,by omega,by omega⟩
structure Drp (v d:Vm) (z:iD):Prop where
 ps:d.ps=v.ps
 zs:d.zs=v.zs
 ts:d.ts=v.ts
 tl:d.tl=v.tl
 fx:d.fx=v.fx
 F:Fmt d
 rf:∀g:Nat,g<64->d.rf g=v.rf g -ind (z=(1,(g:Int)))
 sr:∀s:Nat,s<64->eB d s=eB v s -ind (z=(2,(s:Int)))
 sl:∀s:Nat,s<64->0<eB d s->(sl d s).b=(sl v s).b/\(sl d s).t=(sl v s).t
 dp:kR v.rf->aDu v z
section
variable {v:Vm} {x y:Nat->Int} {W:List Nat}
theorem Lj (h:dX v x y W) {z:iD} (hz:∃i,i<256/\aA v i=z):Drp v (bO v z.1 z.2) z:=by
 obtain⟨i,hi,he⟩:=hz;have hp:=h.A.er i hi;obtain⟨N,hN,Bw,hk⟩:=aED hp;rw[he] at Bw hk;obtain⟨K,M⟩:=z;simp only at Bw hk;subst Bw;rcases hk with⟨rfl,rfl⟩|rfl|rfl
 ·have e:bO v 0 ((0:Nat):Int)=v:=rfl
  simp only[e];exact⟨rfl,rfl,rfl,rfl,rfl,h.F,λg hg=>by rw[aY (λh=>by cases congrArg Prod.fst h)];omega,λs hs=>by rw[aY (λh=>by cases congrArg Prod.fst h)];omega,λs _ _=>⟨rfl,rfl⟩,λ_=>.inl rfl⟩
 ·have e:bO v 1 (N:Int)= { v with rf:=aO v.rf N (v.rf N -1),us:=if v.rf N -1=0 then v.us.set N false else v.us } :=by
   unfold bO;rw[if_pos rfl,Int.toNat_natCast]
  simp only[e];have hpos:v.rf N≠0:=by
   have h1:=h.A.fr N hN (λt ht=>by have:=h.A.et i hi (by rw[he]) t ht;rw[he] at this;exact this);have h2:=iW hi he;have h3:=h.A.x0 N;omega
  refine⟨rfl,rfl,rfl,rfl,rfl,⟨h.F.tl,h.F.tb,h.F.dl,h.F.ds,?_,h.F.h0,h.F.h1⟩,λg hg=> ?_,λs hs=>by rw[aY (λh=>by cases congrArg Prod.fst h)];show eB v s=_;omega,λs _ _=>⟨rfl,rfl⟩,λhr=>.inr (.inl ⟨rfl,N,rfl,hN,hr,hpos⟩)⟩
  ·show(if v.rf N -1=0 then v.us.set N false else v.us).length=64
   split
   ·rw[List.length_set];exact h.F.ul
   ·exact h.F.ul
  ·rw[Lb]
   show aO v.rf N (v.rf N -1) g=_;unfold aO;by_cases c:g=N
   ·rw[if_pos c,if_pos ⟨rfl,c.symm⟩,c]
   ·rw[if_neg c,if_neg (λhh=>c hh.2.symm)];omega
 ·have e:bO v 2 (N:Int)= { v with dv:=v.dv.set N (bump (sl v N) (-1)) } :=by
   unfold bO;rw[if_neg (by decide),if_pos rfl,Int.toNat_natCast];rfl
  simp only[e];have hpos:0<eB v N:=by
   have h1:=h.A.sy N hN;have h2:=iW hi he;have h3:=h.A.y0 N;omega
  have hsl:=aBH (v:=v) (v':= { v with dv:=v.dv.set N (bump (sl v N) (-1)) }) h.F.dl hN rfl;have Gu:∀s:Nat,s<64->eB { v with dv:=v.dv.set N (bump (sl v N) (-1)) } s=eB v s -ind (((2:Int),(N:Int))=(2,(s:Int))):=λs hs=>by
   rw[Lb];unfold eB;rw[hsl s];by_cases c:s=N
   ·rw[if_pos c,if_pos ⟨rfl,c.symm⟩,Rx,c];rfl
   ·rw[if_neg c,if_neg (λhh=>c hh.2.symm)];omega
  have hks:∀s:Nat,s<64->0<eB { v with dv:=v.dv.set N (bump (sl v N) (-1)) } s->(sl { v with dv:=v.dv.set N (bump (sl v N) (-1)) } s).b=(sl v s).b/\(sl { v with dv:=v.dv.set N (bump (sl v N) (-1)) } s).t=(sl v s).t:=λs hs h1=>by
   unfold eB at h1;rw[hsl s] at h1⊢;by_cases c:s=N
   ·rw[if_pos c] at h1⊢;rw[c];exact aAX h1
   ·rw[if_neg c];exact⟨rfl,rfl⟩
  refine⟨rfl,rfl,rfl,rfl,rfl,⟨h.F.tl,h.F.tb,by simp[h.F.dl],λs hs h1=> ?_,h.F.ul,h.F.h0,h.F.h1⟩,λg hg=>by rw[aY (λh=>by cases congrArg Prod.fst h)];show v.rf g=_;omega,Gu,hks,λhr=>.inr (.inr ⟨rfl,sl v N,by omega,?_,hpos⟩)⟩
  ·obtain⟨k1,k2⟩:=hks s hs h1
   rw[k1,k2];refine h.F.ds s hs ?_;have h2:=Gu s hs;have:=(dS (((2:Int),(N:Int))=(2,(s:Int)))).1;omega
  ·have hd:=h.F.dl
   rw[Int.toNat_natCast];unfold sl;simp[List.getD,show N<v.dv.length by omega]
structure Swp (b u:Vm) (k p f:Nat) (W:List Nat):Prop where
 c:dX u (λ_=>0) (λ_=>0) (W.filter (· ≠f))
 en:aA u (64*k+p)=(1,(f:Int))
 eo:∀j,j<256->j≠64*k+p->aA u j=aA b j
 bs:∀j,j<256->j≠64*k+p->∀n,n<64->cb u j n=cb b j n
 gs:∀j,j<256->j≠64*k+p->∀g,g<4->ct u j g=ct b j g
 own:∀n,n<64->cb u (64*k+p) n=b.zs.getD (((f:Int)*64).toNat+n) 0
 Ck:∀g:Nat,g<4->ct u (64*k+p) g=dZ b.ts ((f:Int)*4+(g:Int))
 tab:∀t,t<36->aI u t=aI b t
 tp:nO b.zs (b.ps k).root p 1 f=0
theorem aBA {d u:Vm} (h:dX v x (λ_=>0) W) {f:Nat} (hf:f<64) (hx:∀g,g<64->x g=if g=f then 1 else 0) (nt:∀t,t<36->aI v t≠f) {k:Nat} (hk:k<4) (hv:(v.ps k).live=true) {p:Nat} (hp:p<64) (h0:aG v.zs (v.ps k).root p=0)
 (Cy:∀j,j<256->j≠64*k+p->aA v j=(1,(f:Int))->j%64=p) (hall:full (qV (aA v) (64*k+p) (1,(f:Int)))<=64) (D:Drp v d (aA v (64*k+p)))
 (uz:u.zs=jU v.zs (v.ps k).root p 1 f) (ut:u.tl=fF k p v.tl) (up:u.ps=v.ps) (us:u.ts=v.ts) (uf:∀g,g<64->u.fx g=dV v.fx f false g) (ur:u.rf=d.rf) (ud:u.dv=d.dv) (ul:u.us=d.us) (uh:u.hd=d.hd):Swp v u k p f W:=by
 have hi:64*k+p<256:=by omega
 have hP:cB 1 (f:Int)=0:=Bp (by omega) (by omega) (by omega) (by omega) (by omega)
 have hF:Fmt { u with fx:=v.fx } :=⟨by show u.ts.length=_;rw[us];exact h.F.tl,by show Bytes u.ts;rw[us];exact h.F.tb,by show u.dv.length=_;rw[ud];exact D.F.dl,λs hs h1=>by
  have h2:=D.F.ds s hs (by unfold eB sl at h1⊢;rw[<-ud];exact h1)
  unfold sl at h2⊢;show(u.dv.getD s default).b.length=64/\_;rw[ud];exact h2,by show u.us.length=_;rw[ul];exact D.F.ul,by show 0<=u.hd;rw[uh];exact D.F.h0,by show u.hd<64;rw[uh];exact D.F.h1⟩
 have hxx:∀g:Nat,g<64->(0:Int)=x g -ind (((1:Int),(f:Int))=(1,(g:Int))):=λg hg=>by
  rw[Lb,hx g hg];by_cases c:g=f
  ·rw[if_pos c,if_pos ⟨rfl,c.symm⟩];rfl
  ·rw[if_neg c,if_neg (λhh=>c hh.2.symm)];rfl
 obtain⟨c1,e1,t1,l1⟩:=h.swap (u:= { u with fx:=v.fx }) (x':=λ_=>0) hk hv hp h0 hP (λ_=>nt) hxx (λ_=>Int.le_refl _) (λs hs=>by rw[aY (λh=>by cases congrArg Prod.fst h)]) (λ_=>Cy) hall uz ut up (λ_ _=>rfl) hF (λg hg=>by show u.rf g=_;rw[ur];exact D.rf g hg) (λs hs=>by
  have:=D.sr s hs
  rw[<-this];show(u.dv.getD s default).r=_;rw[ud];rfl)
 have hE:∀i,i<256->aA u i=qV (aA v) (64*k+p) (1,(f:Int)) i:=e1;have hT:∀t,t<36->aI u t=aI v t:=t1;have hen:aA u (64*k+p)=(1,(f:Int)):=by rw[hE _ hi,pM]
 have Mj:∀j,j<256->j≠64*k+p->aA u j=aA v j:=λj hj hne=>by rw[hE j hj,jB _ _ hne]
 have hby:∀g:Nat,(∀t,t<36->aI v t≠g)->∀n,n<64->u.zs.getD (((g:Int)*64).toNat+n) 0=v.zs.getD (((g:Int)*64).toNat+n) 0:=λg hg n hn=>by
  rw[uz];exact Gn h.T h.L hk hv hp h0 hP hg hn
 have hA:=c1.A.loosen (f:=f) (Ja hT nt);refine⟨⟨c1.T,⟨hF.tl,hF.tb,hF.dl,hF.ds,hF.ul,hF.h0,hF.h1⟩,hA.congr (λ_ _=>rfl) (λ_ _=>rfl) (λ_ _=>rfl) uf (λ_ _=>rfl),c1.L⟩,hen,Mj,λj hj hne n hn=> ?_,λj hj hne g hg=> ?_,λn hn=> ?_,λg hg=> ?_,hT,(zT h.T h.L hk hv hp h0 hP).1⟩
 ·unfold cb
  rw[Mj j hj hne];by_cases a:(aA v j).1=1
  ·have hr:=h.jP hj
   obtain⟨g,hg⟩:∃g:Nat,(aA v j).2=g:=⟨_,(Int.toNat_of_nonneg hr.2.2.1).symm⟩;rw[if_pos a,if_pos a,hg];exact hby g (λt ht=>by rw[<-hg];exact h.A.et j hj a t ht) n hn
  ·rw[if_neg a,if_neg a]
   by_cases b:(aA v j).1=2
   ·rw[if_pos b,if_pos b]
    have hr:=h.jP hj;obtain⟨s,hs⟩:∃s:Nat,(aA v j).2=s:=⟨_,(Int.toNat_of_nonneg hr.2.2.1).symm⟩;rw[hs,Int.toNat_natCast];have hpos:0<eB d s:=by
     have a1:=c1.A.sy s (by omega);have a2:=iW hj (show aA { u with fx:=v.fx } j=(2,(s:Int)) from by rw[e1 j hj,jB _ _ hne];exact Prod.ext b hs);have a3:eB { u with fx:=v.fx } s=eB d s:=by unfold eB sl;show(u.dv.getD s default).r=_;rw[ud]
     omega
    rw[<-(D.sl s (by omega) hpos).1];unfold sl;rw[ud]
   ·rw[if_neg b,if_neg b]
 ·unfold ct
  rw[Mj j hj hne,us];by_cases a:(aA v j).1=1
  ·rw[if_pos a,if_pos a]
  ·rw[if_neg a,if_neg a]
   by_cases b:(aA v j).1=2
   ·rw[if_pos b,if_pos b]
    have hr:=h.jP hj;obtain⟨s,hs⟩:∃s:Nat,(aA v j).2=s:=⟨_,(Int.toNat_of_nonneg hr.2.2.1).symm⟩;rw[hs,Int.toNat_natCast];have hpos:0<eB d s:=by
     have a1:=c1.A.sy s (by omega);have a2:=iW hj (show aA { u with fx:=v.fx } j=(2,(s:Int)) from by rw[e1 j hj,jB _ _ hne];exact Prod.ext b hs);have a3:eB { u with fx:=v.fx } s=eB d s:=by unfold eB sl;show(u.dv.getD s default).r=_;rw[ud]
     omega
    rw[<-(D.sl s (by omega) hpos).2];unfold sl;rw[ud]
   ·rw[if_neg b,if_neg b]
 ·unfold cb
  rw[hen,if_pos rfl];exact hby f nt n hn
 ·unfold ct
  rw[hen,if_pos rfl,us]
end
end
section
structure aPd (v u:Vm) (k p f:Nat) (W:List Nat):Prop where
 st:xD (bO v (aA v (64*k+p)).1 (aA v (64*k+p)).2) k p 1 f
 c:dX u (λ_=>0) (λ_=>0) (W.filter (· ≠f))
 l8:u.tl.length<=8
 ps:u.ps=v.ps
 en:aA u (64*k+p)=(1,(f:Int))
 no:∀j,j<256->j≠64*k+p->((aA u j).1=0↔(aA v j).1=0)
 bs:∀j,j<256->j≠64*k+p->∀n,n<64->cb u j n=cb v j n
 gs:∀j,j<256->j≠64*k+p->∀g,g<4->ct u j g=ct v j g
 own:∀n,n<64->cb u (64*k+p) n=v.zs.getD (((f:Int)*64).toNat+n) 0
 Ck:∀g:Nat,g<4->ct u (64*k+p) g=dZ v.ts ((f:Int)*4+(g:Int))
 rf:u.rf f=v.rf f -ind (aA v (64*k+p)=(1,(f:Int)))
 us:(aA v (64*k+p)).1=0->dL v<=dL u/\dL u -dL v=j4 u -j4 v
 tab:∀t,t<36->t≠9*k+1+p/8->aI u t=aI v t
section
variable {v:Vm} {x:Nat->Int} {W:List Nat}
theorem xK {v v':Vm} (h:∀t,t<36->aI v' t=aI v t):j4 v'=j4 v:=dM λt ht=>by rw[h t ht]
theorem Yw (h:dX v x (λ_=>0) W) {f:Nat} (hf:f<64) (hx:∀g,g<64->x g=if g=f then 1 else 0) (nt:∀t,t<36->aI v t≠f) (hl:v.tl.length<=8) (hW:W.length<=3) {k:Nat} (hk:k<4) (hv:(v.ps k).live=true) {p:Nat} (hp:p<64)
 (Cy:∀j,j<256->j≠64*k+p->aA v j=(1,(f:Int))->j%64=p) (hall:full (qV (aA v) (64*k+p) (1,(f:Int)))<=64):
 aPd v (gI (bO v (aA v (64*k+p)).1 (aA v (64*k+p)).2) k p 1 f) k p f W:=by
 have hi:64*k+p<256:=by omega
 have D:=Lj h ⟨64*k+p,hi,rfl⟩;obtain⟨d,hd⟩:∃d,d=bO v (aA v (64*k+p)).1 (aA v (64*k+p)).2:=⟨_,rfl⟩;have hd':=hd;rw[<-hd] at D⊢;have aOP:Few x:=λg hg=>by rw[hx g hg];split<;>omega
 have hfix:∀(X:Vm) (b:Bool),gN X 1 (f:Int) b= { X with fx:=dV X.fx f b } :=λX b=>by unfold gN;rw[if_pos rfl,Int.toNat_natCast]
 have huu:∀(a:Nat->Bool) g,dV (dV a f true) f false g=dV a f false g:=λa g=>by unfold dV;split<;>rfl
 rcases h.T.leaf k hk hv p hp with h0|h3
 ·have e1:bG (gN d 1 f true) k p= { d with fx:=dV d.fx f true } :=by
   rw[hfix];unfold bG;rw[if_neg];show¬aG d.zs (d.ps k).root p=3;rw[D.zs,D.ps,h0];decide
  have e2:gI d k p 1 f= { d with zs:=jU d.zs (d.ps k).root p 1 f,tl:=fF k p d.tl,fx:=dV (dV d.fx f true) f false } :=by
   unfold gI;rw[e1,hfix];rfl
  have S:=aBA (u:=gI d k p 1 f) h hf hx nt hk hv hp h0 Cy hall D (by rw[e2];show jU d.zs (d.ps k).root p 1 f=_;rw[D.zs,D.ps]) (by rw[e2];show fF k p d.tl=_;rw[D.tl]) (by rw[e2];exact D.ps) (by rw[e2];exact D.ts) (λg hg=>by rw[e2];show dV (dV d.fx f true) f false g=_;rw[huu,D.fx]) (by rw[e2]) (by rw[e2]) (by rw[e2]) (by rw[e2]);have hst:xD d k p 1 f:=⟨by rw[D.zs];exact h.T.zb,.inl (by rw[D.zs,D.ps];exact h0),by rw[e1];show Bytes d.zs;rw[D.zs];exact h.T.zb,by rw[e1];show d.tl.length<=1000;rw[D.tl];omega,by rw[e1];show nO d.zs (d.ps k).root p 1 f=0;rw[D.zs,D.ps];exact S.tp⟩;refine⟨by rw[<-hd];exact hst,S.c,?_,by rw[e2];exact D.ps,S.en,λj hj hne=>by rw[S.eo j hj hne],S.bs,S.gs,S.own,S.Ck,by rw[e2];exact D.rf f hf,λhz=> ?_,λq hq _=>S.tab q hq⟩
  ·rw[e2];show(fF k p d.tl).length<=8
   have:=xB (k:Int) p d.tl;rw[D.tl] at this⊢;omega
  ·have hn:=xK S.tab
   have hd0:d=v:=by rw[hd'];unfold bO;rw[hz,if_neg (by decide),if_neg (by decide)]
   have hu:dL (gI d k p 1 f)=dL v:=xH (by rw[e2,hd0]) (by rw[e2,hd0]);omega
 ·have hz:(aA v (64*k+p)).1=0:=by
   by_cases c:(aA v (64*k+p)).1=0
   ·exact c
   ·have:=Ie h.A hk hv hp c;omega
  have hd0:d=v:=by rw[hd'];unfold bO;rw[hz,if_neg (by decide),if_neg (by decide)]
  have hzz:aA v (64*k+p)=(0,0):=by
   have:=nH (h.A.er _ hi);exact Prod.ext hz (this.2.2.2.2 hz)
  clear hd hd' D;subst hd0;have hv1:gN d 1 (f:Int) true= { d with fx:=dV d.fx f true } :=hfix d true;obtain⟨v1,aFs⟩:∃v1,v1=gN d 1 (f:Int) true:=⟨_,rfl⟩;rw[<-aFs] at hv1;have hc1:dX v1 x (λ_=>0) (f::W):=by rw[hv1];exact⟨h.T,⟨h.F.tl,h.F.tb,h.F.dl,h.F.ds,h.F.ul,h.F.h0,h.F.h1⟩,h.A.hold f,h.L⟩
  have aCw:v1.fx f=true:=by rw[hv1];show dV d.fx f true f=true;unfold dV;rw[if_pos rfl]
  have hx1:Hld v1 x:=λg hg hne=>by
   rw[hx g hg] at hne;by_cases c:g=f
   ·rw[c];exact aCw
   ·rw[if_neg c] at hne;exact absurd rfl hne
  have hvl:(v1.ps k).live=true:=by rw[hv1];exact hv
  have L:=aCh hc1 hx1 aOP (by rw[hv1];exact hl) (by simp;omega) hk hvl hp;obtain⟨v3,hv3⟩:∃v3,v3=bG v1 k p:=⟨_,rfl⟩;rw[<-hv3] at L;have E1:∀i,aA v1 i=aA d i:=λi=>by rw[hv1];rfl
  have R1:v1.rf=d.rf:=by rw[hv1]
  have T1:∀t,aI v1 t=aI d t:=λt=>by rw[hv1];rfl
  have P1:v1.ps=d.ps:=by rw[hv1]
  have Z1:v1.zs=d.zs:=by rw[hv1]
  have hrf:1<=d.rf f:=by
   have a1:=h.A.fr f hf nt;have a2:=oJ (aA d) (1,(f:Int));rw[hx f hf,if_pos rfl] at a1;omega
  have nt1:∀t,t<36->aI v1 t≠f:=λt ht=>by rw[T1];exact nt t ht
  have nt3:=L.nt f hf aCw (by rw[R1];omega) nt1;have aOC:v3.rf f=d.rf f:=by rw[L.ke.rf f hf aCw (by rw[R1];omega),R1]
  have aFu:v3.ps=d.ps:=by rw[L.ke.ps,P1]
  have hz3:aA v3 (64*k+p)=(0,0):=by
   have h1:=(L.ke.no (64*k+p) hi).2 (by rw[E1];exact hz);have:=nH (L.c.A.er _ hi);exact Prod.ext h1 (this.2.2.2.2 h1)
  have hcnt:dE (aA v3) (1,(f:Int))=dE (aA d) (1,(f:Int)):=by
   have a1:=L.c.A.fr f hf nt3;have a2:=h.A.fr f hf nt;omega
  have aOE:∀j,j<256->j≠64*k+p->aA v3 j=(1,(f:Int))->j%64=p:=λj hj hne he=>by
   have a:=iW hj he;rw[hcnt] at a;obtain⟨j0,b1,b2⟩:=Ru a;have hj0:j0≠64*k+p:=λhh=>by rw[hh,hzz] at b2;cases congrArg Prod.fst b2
   have b3:aA v3 j0=(1,(f:Int)):=by
    have:=L.ke.held j0 b1 (by rw[E1,b2]) (by rw[E1,b2];exact aCw);rw[this,E1];exact b2
   rw[L.c.A.pg j hj j0 b1 (by rw[he,b3]) (by rw[he];exact Int.one_ne_zero)];exact Cy j0 b1 hj0 b2
  have aOb:full (qV (aA v3) (64*k+p) (1,(f:Int)))<=64:=by
   refine Int.le_trans (Int.le_of_eq (vL λj hj=> ?_)) hall;by_cases c:j=64*k+p
   ·subst c;rw[pM,pM]
   ·rw[jB _ _ c,jB _ _ c,<-E1 j];exact L.ke.no j hj
  have D3:=Lj L.c (z:=aA v3 (64*k+p)) ⟨_,hi,rfl⟩;have hd3:bO v3 (aA v3 (64*k+p)).1 (aA v3 (64*k+p)).2=v3:=by rw[hz3];rfl
  rw[hd3] at D3;have e2:gI d k p 1 f= { v3 with zs:=jU v3.zs (v3.ps k).root p 1 f,tl:=fF k p v3.tl,fx:=dV v3.fx f false } :=by
   unfold gI;rw[<-aFs,<-hv3,hfix];rfl
  have h03:aG v3.zs (v3.ps k).root p=0:=by have:=L.h0;rw[P1] at this;rw[aFu];exact this
  have S:=aBA (u:=gI d k p 1 f) L.c hf hx nt3 hk (by rw[aFu];exact hv) hp h03 aOE aOb D3 (by rw[e2]) (by rw[e2]) (by rw[e2]) (by rw[e2]) (λg hg=>by rw[e2]) (by rw[e2]) (by rw[e2]) (by rw[e2]) (by rw[e2]);have hWW:((f::W).filter (· ≠f))=W.filter (· ≠f):=by simp
  have hst:bG (gN d 1 f true) k p=v3:=by rw[<-aFs,hv3]
  have hdz:bO d (aA d (64*k+p)).1 (aA d (64*k+p)).2=d:=by rw[hzz];rfl
  refine⟨?_,by rw[<-hWW];exact S.c,?_,by rw[e2];exact aFu,S.en,λj hj hne=>by rw[S.eo j hj hne,L.ke.no j hj,E1],λj hj hne n hn=> ?_,λj hj hne g hg=> ?_,λn hn=> ?_,λg hg=> ?_,?_,λ_=> ?_,λq hq hne=>by rw[S.tab q hq,L.tab q hq hne,T1]⟩
  ·rw[hdz]
   refine⟨h.T.zb,.inr ⟨h3,?_⟩,by rw[hst];exact L.c.T.zb,by rw[hst];have:=L.l8;omega,by rw[hst];have:=S.tp;rwa[aFu] at this⟩;rcases L.lf with h5|⟨_,f2,h6,h7,h8⟩
   ·exfalso
    rw[Z1,P1,h3] at h5;cases h5
   ·rw[P1] at h8
    rw[<-aFs];exact⟨f2,h6,h7,h8⟩
  ·rw[e2];show(fF k p v3.tl).length<=8
   have:=xB (k:Int) p v3.tl;have:=L.l8;omega
  ·rw[S.bs j hj hne n hn,L.ke.cb j hj n hn,hv1];rfl
  ·rw[S.gs j hj hne g hg,L.ke.ct j hj g hg,hv1];rfl
  ·rw[S.own n hn,L.ke.byte f hf aCw (by rw[R1];omega) nt1 n hn,Z1]
  ·rw[S.Ck g hg,L.ke.tag,hv1]
  ·rw[e2];show v3.rf f=_
   rw[aOC,hzz,aY (λh=>by cases congrArg Prod.fst h)];omega
  ·have a:=L.us
   have b:dL v1=dL d:=xH (by rw[hv1]) (by rw[hv1]);have c:j4 v1=j4 d:=xK λt _=>T1 t;have d1:=xK S.tab;have e3:dL (gI d k p 1 f)=dL v3:=xH (by rw[e2]) (by rw[e2]);omega
end
end
section
def ze:Nat->Int:=λ_=>0
section
variable {v:Vm} {W:List Nat}
theorem aCY {v:Vm} {k p:Nat} (hv:(v.ps k).live=true) (hp:p<64):gF v k (p:Int)=aA v (64*k+p):=(Jh hv hp).symm
theorem aMK {x y:Nat->Int} (h:dX v x y W) {k:Nat} (hk:k<4) (hv:(v.ps k).live=true) {p:Nat} (hp:p<64):Cm v k p=aA v (64*k+p):=by
 unfold Cm iF;cases hf:v.tl.find? (λc=>c.p==(k:Int)&&c.g==(p:Int)) with
 |none=>simp only[Option.map_none,Option.getD_none];exact aCY hv hp
 |some c=>
  simp only[Option.map_some,Option.getD_some];have hc:=List.find?_some hf;simp only[Bool.and_eq_true,beq_iff_eq] at hc;obtain⟨i,hi,c1,c2,c3,c4⟩:=h.L c (List.mem_of_find?_eq_some hf);have:i=64*k+p:=by omega
  rw[<-this,c4,c3]
theorem aGv {e:Nat->iD} {z:iD} {i j:Nat} (hi:i<256) (hj:j<256) (hne:i≠j) (h1:e i=z) (h2:e j=z):2<=dE e z:=by
 have:=aIk (f:=λi=>ind (e i=z)) hi hj hne (λi _=>(dS _).1);simp only[bP h1,bP h2] at this;unfold dE;omega
structure Her (v u:Vm) (k p n:Nat):Prop where
 lt:n<64
 c:dX u ze ze []
 l8:u.tl.length<=8
 ps:u.ps=v.ps
 en:aA u (64*k+p)=(1,(n:Int))
 no:∀j,j<256->j≠64*k+p->((aA u j).1=0↔(aA v j).1=0)
 bs:∀j,j<256->∀i,i<64->cb u j i=cb v j i
 gs:∀j,j<256->∀g,g<4->ct u j g=ct v j g
theorem aCt (v:Vm):Hld v ze:=λf _ h=>absurd rfl h
theorem Ik:Few ze:=λf _=>by unfold ze;omega
theorem aIa {f:Nat} :∀g,g<64->aO ze f 1 g=if g=f then 1 else 0:=λg _=>rfl
theorem aJj (h:dX v ze ze []) (hl:v.tl.length<=8) {k:Nat} (hk:k<4) (hv:(v.ps k).live=true) {p:Nat} (hp:p<64) (h1:(aA v (64*k+p)).1≠1) (hroom:(aA v (64*k+p)).1=0->full (aA v)<64):
 ∃f:Nat,takeN v=f/\aJ7 v k p (aA v (64*k+p)) f/\Her v (Bz v k p (aA v (64*k+p))) k p f/\(Bz v k p (aA v (64*k+p))).rf f=1:=by
 have hi:64*k+p<256:=by omega
 obtain⟨v1,f,t⟩:=Tv h (aCt v) Ik hl (by simp);have hf:=t.ok.l;obtain⟨vt,Pk⟩:∃vt,vt=({ v1 with rf:=aO v1.rf f 1 } :Vm):=⟨_,rfl⟩;have heq:=t.eq;have hc:=t.c;rw[<-Pk] at heq hc;have E1:∀i,aA vt i=aA v1 i:=λi=>by rw[Pk];rfl
 have T1:∀i,aI vt i=aI v1 i:=λi=>by rw[Pk];rfl
 have hps:vt.ps=v.ps:=by rw[Pk];exact t.ke.ps
 have Pq:aA v1 (64*k+p)=aA v (64*k+p):=by
  have hp1:=nH (h.A.er _ hi);by_cases c:(aA v (64*k+p)).1=0
  ·have c1:=(t.ke.no _ hi).2 c
   have hp2:=nH (t.c1.A.er _ hi);exact Prod.ext (by rw[c1,c]) (by rw[hp1.2.2.2.2 c,hp2.2.2.2.2 c1])
  ·exact t.ke.out _ hi (by omega)
 obtain⟨z,hz⟩:∃z,z=aA v (64*k+p):=⟨_,rfl⟩;rw[<-hz] at Pq h1 hroom⊢;have hzp:=nH (h.A.er _ hi);rw[<-hz] at hzp;obtain⟨b,tg,u,hu,hb,hB,hT,hbc,htc,⟨q1,q2⟩,q3⟩:∃(b tg:List Int) (u:Vm),u=iM vt f b tg/\(b=[]\/b.length=64)/\Bytes b/\aBd tg/\(∀n,n<64->b.getD n 0=cb v1 (64*k+p) n)/\(∀g,g<4->tg.getD g 0=ct v1 (64*k+p) g)/\(Bz v k p z=gI (bO u z.1 z.2) k p 1 f/\uX v z=bO u z.1 z.2)/\(z.1=0\/(z.1=2/\∃s,uQ (dJ v).dv z.2 s/\s.b.length=64/\s.t.length=4/\aFV s.t)):=by
  by_cases c:z.1=2
  ·obtain⟨s,hs⟩:∃s:Nat,z.2=s:=⟨z.2.toNat,by omega⟩
   have hpos:0<eB v1 s:=by
    have a1:=t.c1.A.sy s (by omega);have a2:=iW hi (show aA v1 (64*k+p)=(2,(s:Int)) from by rw[Pq];exact Prod.ext c hs);unfold ze at a1;omega
   obtain⟨d1,d2,d3,d4⟩:=t.c1.F.ds s (by omega) hpos;have hdv:(dJ v).dv.getD z.2.toNat default=sl v1 s:=by rw[heq,Pk,hs,Int.toNat_natCast];rfl
   refine⟨(sl v1 s).b,(sl v1 s).t,iM vt f (sl v1 s).b (sl v1 s).t,rfl,.inr d1,d3,d4,λn hn=> ?_,λg hg=> ?_,⟨?_,?_⟩,.inr ⟨c,sl v1 s,⟨by omega,?_,hpos⟩,d1,d2,d4⟩⟩
   ·unfold cb;rw[Pq,c,if_neg (by decide),if_pos rfl,hs,Int.toNat_natCast]
   ·unfold ct;rw[Pq,c,if_neg (by decide),if_pos rfl,hs,Int.toNat_natCast]
   ·unfold Bz;rw[if_pos c,hdv,heq,t.ok.n]
   ·unfold uX;rw[if_pos c,hdv,heq,t.ok.n]
   ·have hd:=t.c1.F.dl
    rw[heq,Pk,hs,Int.toNat_natCast];show v1.dv[s]? =some (sl v1 s);unfold sl;simp[List.getD,show s<v1.dv.length by omega]
  ·have c0:z.1=0:=by omega
   refine⟨[],[],iM vt f [] [],rfl,.inl rfl,λi=>by simp,λi=>by simp,λn hn=> ?_,λg hg=> ?_,⟨?_,?_⟩,.inl c0⟩
   ·unfold cb;rw[Pq,c0,if_neg (by decide),if_neg (by decide)];simp
   ·unfold ct;rw[Pq,c0,if_neg (by decide),if_neg (by decide)];simp
   ·unfold Bz;rw[if_neg c,heq,t.ok.n]
   ·unfold uX;rw[if_neg c,heq,t.ok.n]
 have nt:∀t,t<36->aI vt t≠f:=λq hq=>by rw[T1];exact t.nt q hq
 have ce:dE (aA vt) (1,(f:Int))=0:=by rw[Ff (v:=v1) (v':=vt) (λi _=>E1 i)];exact t.ce
 have Fl:=aEA hc hf nt ce hb hB hT;rw[<-hu] at Fl;have hzu:aA u (64*k+p)=z:=by rw[Fl.en _ hi,E1];exact Pq
 have aCs:u.ps=v.ps:=by rw[hu];exact hps
 have hut:u.tl=v1.tl:=by rw[hu,Pk];rfl
 have hfull:full (aA u)=full (aA v):=vL λi hi=>by rw[Fl.en i hi,E1];exact t.ke.no i hi
 have S:=Yw (v:=u) (W:=[]) Fl.c hf aIa (Ja Fl.tab nt) (by rw[hut];exact t.l8) (by simp) hk (by rw[aCs];exact hv) hp (λj hj _ he=>absurd he (by
  have:=Fl.c.Xm (f:=f) (by rw[Ff Fl.en];exact ce) hj;exact this)) (by
  rw[Le hi,hfull,hzu,bP (p:=(1:Int)≠0) (by decide)];by_cases c:z.1=0
  ·have:=hroom c
   have:=(dS (z.1≠0)).1;omega
  ·rw[bP c];have:=h.A.all;omega)
 have hst:=S.st;have hrf:=S.rf;rw[hzu,<-q1] at S hrf;rw[hzu,<-q2] at hst;have hown:=S.own;have aFw:=S.Ck;refine⟨f,t.ok.n,⟨t.ok,by rw[heq,Pk];exact t.c1.F.tb,q3,hst⟩,⟨hf,S.c,S.l8,by rw[S.ps,aCs],S.en,λj hj hne=>by rw[S.no j hj hne,Fl.en j hj,E1];exact t.ke.no j hj,λj hj n hn=> ?_,λj hj g hg=> ?_⟩,?_⟩
 ·by_cases c:j=64*k+p
  ·rw[c,hown n hn,Fl.Hg n hn,hbc n hn];exact t.ke.cb _ hi n hn
  ·rw[S.bs j hj c n hn,Fl.cb j hj n hn,Pk];exact t.ke.cb j hj n hn
 ·by_cases c:j=64*k+p
  ·rw[c,aFw g hg,Fl.tg g hg,htc g hg];exact t.ke.ct _ hi g hg
  ·rw[S.gs j hj c g hg,Fl.ct j hj g hg,Pk];exact t.ke.ct j hj g hg
 ·rw[hrf,aY (λhh=>h1 (by rw[hh])),hu,Pk]
  show aO v1.rf f 1 f -0=1;rw[vH];rfl
theorem aLX (h:dX v ze ze []) (hl:v.tl.length<=8) {k:Nat} (hk:k<4) (hv:(v.ps k).live=true) {p:Nat} (hp:p<64) {n:Nat} (he:aA v (64*k+p)=(1,(n:Int))) (hr:1<v.rf n):
 ∃f:Nat,takeN (sQ v n)=f/\aKb v k p n f/\Her v (copyV v k p n) k p f/\(copyV v k p n).rf f=1:=by
 have hi:64*k+p<256:=by omega
 have hn:n<64:=by have:=h.jP hi;rw[he] at this;omega
 have hnt:∀t,t<36->aI v t≠n:=λt ht=>by have:=h.A.et _ hi (by rw[he]) t ht;rw[he] at this;exact this
 have e0:sQ v n= { v with fx:=dV v.fx n true } :=by unfold sQ;rw[Int.toNat_natCast]
 obtain⟨v0,hv0⟩:∃v0,v0=sQ v n:=⟨_,rfl⟩;rw[<-hv0] at e0;have c0:dX v0 ze ze [n]:=by rw[e0];exact⟨h.T,⟨h.F.tl,h.F.tb,h.F.dl,h.F.ds,h.F.ul,h.F.h0,h.F.h1⟩,h.A.hold n,h.L⟩
 obtain⟨v1,f,t⟩:=Tv c0 (aCt v0) Ik (by rw[e0];exact hl) (by simp);have hf:=t.ok.l;have aNe:v0.fx n=true:=by rw[e0];show dV v.fx n true n=true;unfold dV;rw[if_pos rfl]
 have E0:∀i,aA v0 i=aA v i:=λi=>by rw[e0];rfl
 have hr1:v1.rf n=v.rf n:=by rw[t.ke.rf n hn aNe,e0]
 have hne:f≠n:=λhh=>by have:=t.r0;rw[hh,hr1] at this;omega
 obtain⟨vu,hvu⟩:∃vu,vu=mH v n:=⟨_,rfl⟩;have eu:vu= { ({ v1 with rf:=aO v1.rf f 1 } :Vm) with fx:=dV v1.fx n false } :=by
  rw[hvu];unfold mH;rw[<-hv0,t.eq,Int.toNat_natCast]
 have Pq:aA v1 (64*k+p)=(1,(n:Int)):=by
  rw[t.ke.held _ hi (by rw[E0,he]) (by rw[E0,he];exact aNe),E0];exact he
 have aOF:∀q,q<36->aI v1 q≠n:=λq hq=>by rw[t.ke.tab q hq,e0];exact hnt q hq
 have E1:∀i,aA vu i=aA v1 i:=λi=>by rw[eu];rfl
 have T1:∀i,aI vu i=aI v1 i:=λi=>by rw[eu];rfl
 have hps:vu.ps=v.ps:=by rw[eu];show v1.ps=_;rw[t.ke.ps,e0]
 have hc:dX vu (aO ze f 1) ze []:=by
  have hA:=(t.c.A.loosen (f:=n) aOF).weak (W':=[]) (λg hg=>by simp at hg);rw[eu];exact⟨t.c.T,⟨t.c.F.tl,t.c.F.tb,t.c.F.dl,t.c.F.ds,t.c.F.ul,t.c.F.h0,t.c.F.h1⟩,hA,t.c.L⟩
 have nt:∀q,q<36->aI vu q≠f:=λq hq=>by rw[T1];exact t.nt q hq
 have ce:dE (aA vu) (1,(f:Int))=0:=by rw[Ff (v:=v1) (v':=vu) (λi _=>E1 i)];exact t.ce
 have hB:=aAE hc.T.zb n;have hT:=Uy hc.F.tb n;obtain⟨b,hb⟩:∃b,b=tL vu.zs n:=⟨_,rfl⟩;obtain⟨tg,htg⟩:∃tg,tg=jS vu.ts n:=⟨_,rfl⟩;rw[<-hb] at hB;rw[<-htg] at hT;have Fl:=aEA hc hf nt ce (.inr (by rw[hb];exact Aj vu.zs n)) hB hT;obtain⟨u,hu⟩:∃u,u=iM vu f b tg:=⟨_,rfl⟩;rw[<-hu] at Fl;have hzu:aA u (64*k+p)=(1,(n:Int)):=by rw[Fl.en _ hi,E1];exact Pq
 have aCs:u.ps=v.ps:=by rw[hu];exact hps
 have hut:u.tl=v1.tl:=by rw[hu,eu];rfl
 have hfull:full (aA u)=full (aA v):=vL λi hi=>by rw[Fl.en i hi,E1,t.ke.no i hi,E0]
 have hcf:yT v n=u:=by unfold yT;rw[<-hvu,<-hv0,t.ok.n,hu,hb,htg]
 have q1:copyV v k p n=gI (bO u 1 n) k p 1 f:=by
  unfold copyV;rw[<-hcf];unfold yT;rw[<-hv0,t.ok.n]
 have S:=Yw (v:=u) (W:=[]) Fl.c hf aIa (Ja Fl.tab nt) (by rw[hut];exact t.l8) (by simp) hk (by rw[aCs];exact hv) hp (λj hj _ he=>absurd he (by
  have:=Fl.c.Xm (f:=f) (by rw[Ff Fl.en];exact ce) hj;exact this)) (by
  rw[Le hi,hfull,hzu,bP (p:=(1:Int)≠0) (by decide)]
  have:=h.A.all;omega)
 have hst:=S.st;rw[hzu] at S hst;simp only at S hst;rw[<-q1] at S;have hrf:=S.rf;have hown:=S.own;have aFw:=S.Ck;rw[hzu] at hrf;have hcb:∀m,m<64->v1.zs.getD (((n:Int)*64).toNat+m) 0=cb v1 (64*k+p) m:=λm hm=>by unfold cb;rw[Pq,if_pos rfl]
 have hct:∀g:Nat,g<4->dZ v1.ts ((n:Int)*4+(g:Int))=ct v1 (64*k+p) g:=λg hg=>by unfold ct;rw[Pq,if_pos rfl]
 have hru:vu.rf=aO v1.rf f 1:=by rw[eu]
 refine⟨f,by rw[<-hv0];exact t.ok.n,⟨by rw[<-hv0];exact t.ok,hne,by rw[<-hvu];exact hc.F.tb,by rw[<-hvu];exact hc.V9 (λg hg=>by unfold aO;split;omega;unfold ze;omega),?_,by rw[hcf];exact hst⟩,⟨hf,S.c,S.l8,by rw[S.ps,aCs],S.en,λj hj hne=>by rw[S.no j hj hne,Fl.en j hj,E1,t.ke.no j hj,E0],λj hj m hm=> ?_,λj hj g hg=> ?_⟩,?_⟩
 ·rw[<-hvu,hru];unfold aO;rw[if_neg (Ne.symm hne),hr1];omega
 ·by_cases c:j=64*k+p
  ·rw[c,hown m hm,Fl.Hg m hm,hb,Xg _ _ hm,eu]
   show v1.zs.getD _ 0=_;rw[hcb m hm,t.ke.cb _ hi m hm,e0];rfl
  ·rw[S.bs j hj c m hm,Fl.cb j hj m hm,eu]
   show cb v1 j m=_;rw[t.ke.cb j hj m hm,e0];rfl
 ·by_cases c:j=64*k+p
  ·rw[c,aFw g hg,Fl.tg g hg,htg,aCG _ _ hg,eu]
   show dZ v1.ts _=_;rw[hct g hg,t.ke.ct _ hi g hg,e0];rfl
  ·rw[S.gs j hj c g hg,Fl.ct j hj g hg,eu]
   show ct v1 j g=_;rw[t.ke.ct j hj g hg,e0];rfl
 ·rw[hrf,aY (λhh=>hne (by have:=congrArg Prod.snd hh;simp at this;omega)),hu]
  show vu.rf f -0=1;rw[hru,vH];rfl
theorem aJw {l:List iO} {c:iO} (h:c∈Fb l):c∈l:=by
 unfold Fb at h;split at h
 ·exact List.mem_of_mem_drop h
 ·exact h
theorem aJx (l:List iO) (h:l.length<=9):(Fb l).length<=8:=by
 unfold Fb;split
 ·rw[List.length_drop];omega
 ·omega
theorem aLp {x y:Nat->Int} (h:dX v x y W) (hl:v.tl.length<=8) {k p n:Nat} (hk:k<4) (hp:p<64) (he:aA v (64*k+p)=(1,(n:Int))):dX (Wm v k p n) x y W/\(Wm v k p n).tl.length<=8:=by
 refine⟨⟨h.T,⟨h.F.tl,h.F.tb,h.F.dl,h.F.ds,by show(v.us.set _ true).length=64;rw[List.length_set];exact h.F.ul,h.F.h0,h.F.h1⟩,h.A,λc hc=> ?_⟩,aJx _ (by
  have:=xB (k:Int) p v.tl
  simp;omega)⟩
 rcases List.mem_append.1 (aJw hc) with h1|h1
 ·exact h.L c (List.mem_filter.1 h1).1
 ·obtain rfl:=List.mem_singleton.1 h1
  exact⟨64*k+p,by omega,by show(k:Int)=_;omega,by show(p:Int)=_;omega,rfl,he⟩
structure Hre (v u:Vm) (k p n:Nat) (w:Bool):Prop extends Her v u k p n where
 ok:Zu v k p w
 hn:yL v k p w=n
 un:w=true->∀j,j<256->j≠64*k+p->aA u j≠(1,(n:Int))
theorem aLG (h:dX v ze ze []) (hl:v.tl.length<=8) {k:Nat} (hk:k<4) (hv:(v.ps k).live=true) {p:Nat} (hp:p<64) (hroom:(aA v (64*k+p)).1=0->full (aA v)<64) (w:Bool):∃n,Hre v (jW v k p w) k p n w:=by
 have hi:64*k+p<256:=by omega
 have hm:=aMK h hk hv hp;obtain⟨n1,v2,hv2,h1,hft⟩:∃(n1:Nat) (v2:Vm),lL v k p=(v2,(n1:Int))/\Her v v2 k p n1/\((Cm v k p).1≠1->∃f,aJ7 v k p (Cm v k p) f):=by
  by_cases c:(aA v (64*k+p)).1=1
  ·obtain⟨n1,hn1⟩:∃n1:Nat,(aA v (64*k+p)).2=n1:=⟨_,(Int.toNat_of_nonneg (h.jP hi).2.2.1).symm⟩
   refine⟨n1,v,?_,⟨by have:=h.jP hi;omega,h,hl,rfl,Prod.ext c hn1,λ_ _ _=>Iff.rfl,λ_ _ _ _=>rfl,λ_ _ _ _=>rfl⟩,λhh=>absurd (by rw[hm];exact c) hh⟩;unfold lL;rw[hm,if_pos c,hn1]
  ·obtain⟨f,f1,f2,f3,f4⟩:=aJj h hl hk hv hp c hroom
   refine⟨f,_,?_,f3,λ_=>⟨f,by rw[hm];exact f2⟩⟩;unfold lL;rw[hm,if_neg c,f1]
 have aM6:v2.ps=v.ps:=h1.ps;have hr2:=h1.c.A.fr n1 h1.lt (λt ht=>by have:=h1.c.A.et _ hi (by rw[h1.en]) t ht;rw[h1.en] at this;exact this);obtain⟨n2,v3,hv3,h2,hcp,hun⟩:∃(n2:Nat) (v3:Vm),sO v2 k p n1 w=(v3,(n2:Int))/\Her v v3 k p n2/\(w=true->1<v2.rf n1->∃f,aKb v2 k p n1 f)/\(w=true->v3.rf n2<=1):=by
  by_cases c:w=true/\1<v2.rf n1
  ·obtain⟨f,f1,f2,f3,f4⟩:=aLX h1.c h1.l8 hk (by rw[aM6];exact hv) hp h1.en c.2
   refine⟨f,_,?_,⟨f3.lt,f3.c,f3.l8,by rw[f3.ps,aM6],f3.en,λj hj hne=>by rw[f3.no j hj hne,h1.no j hj hne],λj hj i hi=>by rw[f3.bs j hj i hi,h1.bs j hj i hi],λj hj i hi=>by rw[f3.gs j hj i hi,h1.gs j hj i hi]⟩,λ_ _=>⟨f,f2⟩,λ_=>by rw[f4];omega⟩;unfold sO;rw[Int.toNat_natCast,if_pos c,f1]
  ·refine⟨n1,v2,?_,h1,λa b=>absurd ⟨a,b⟩ c,λa=> ?_⟩
   ·unfold sO;rw[Int.toNat_natCast,if_neg c]
   ·by_cases d:1<v2.rf n1
    ·exact absurd ⟨a,d⟩ c
    ·omega
 have hN:yL v k p w=n2:=by unfold yL;rw[hv2,hv3]
 have hV:jW v k p w=Wm v3 k p n2:=by unfold jW;rw[hN,hv2,hv3]
 obtain⟨m1,m2⟩:=aLp h2.c h2.l8 hk hp h2.en;refine⟨n2,⟨h2.lt,by rw[hV];exact m1,by rw[hV];exact m2,by rw[hV];exact h2.ps,by rw[hV];exact h2.en,by rw[hV];exact h2.no,by rw[hV];exact h2.bs,by rw[hV];exact h2.gs⟩,⟨h.T.zb,by omega,λ_=>h.T.get k hk hv p hp,hft,⟨n1,h1.lt,by rw[hv2]⟩,λn hn a b=> ?_,⟨n2,h2.lt,hN⟩,?_⟩,hN,λa j hj hne he=> ?_⟩
 ·rw[hv2] at hn b⊢
  have:n=n1:=by simp only at hn;omega
  subst this;exact hcp a b
 ·rw[hv2,hv3];have:=h2.l8;show v3.tl.length<=1000;omega
 ·rw[hV] at he
  have he3:aA v3 j=(1,(n2:Int)):=he;have a1:=aGv hi hj (Ne.symm hne) h2.en he3;have a2:=h2.c.A.fr n2 h2.lt (λt ht=>by have:=h2.c.A.et _ hi (by rw[h2.en]) t ht;rw[h2.en] at this;exact this);have a3:=hun a;unfold ze at a2;omega
end
end
section
section
variable {v d u:Vm} {x y:Nat->Int} {W:List Nat}
theorem aEr {z:iD} {i:Nat} (h:dX v x y W) (D:Drp v d z) (Mj:∀j,j<256->j≠i->aA u j=aA v j) (hby:∀g:Nat,(∀t,t<36->aI v t≠g)->∀n,n<64->u.zs.getD (((g:Int)*64).toNat+n) 0=v.zs.getD (((g:Int)*64).toNat+n) 0) (us:u.ts=v.ts) (ud:u.dv=d.dv)
 (hpos:∀j,j<256->j≠i->∀s:Nat,aA v j=(2,(s:Int))->0<eB d s):(∀j,j<256->j≠i->∀n,n<64->cb u j n=cb v j n)/\∀j,j<256->j≠i->∀g,g<4->ct u j g=ct v j g:=by
 have key:∀j,j<256->j≠i->(aA v j).1=2->∃s:Nat,s<64/\(aA v j).2=s/\sl u s=sl d s/\0<eB d s:=λj hj hne b=>by
  have hr:=h.jP hj;obtain⟨s,hs⟩:∃s:Nat,(aA v j).2=s:=⟨_,(Int.toNat_of_nonneg hr.2.2.1).symm⟩;exact⟨s,by omega,hs,by unfold sl;rw[ud],hpos j hj hne s (Prod.ext b hs)⟩
 refine⟨λj hj hne n hn=> ?_,λj hj hne g hg=> ?_⟩
 ·unfold cb
  rw[Mj j hj hne];by_cases a:(aA v j).1=1
  ·have hr:=h.jP hj
   obtain⟨g,hg⟩:∃g:Nat,(aA v j).2=g:=⟨_,(Int.toNat_of_nonneg hr.2.2.1).symm⟩;rw[if_pos a,if_pos a,hg];exact hby g (λt ht=>by rw[<-hg];exact h.A.et j hj a t ht) n hn
  ·rw[if_neg a,if_neg a]
   by_cases b:(aA v j).1=2
   ·obtain⟨s,s1,s2,s3,s4⟩:=key j hj hne b
    rw[if_pos b,if_pos b,s2,Int.toNat_natCast,s3,(D.sl s s1 s4).1]
   ·rw[if_neg b,if_neg b]
 ·unfold ct
  rw[Mj j hj hne,us];by_cases a:(aA v j).1=1
  ·rw[if_pos a,if_pos a]
  ·rw[if_neg a,if_neg a]
   by_cases b:(aA v j).1=2
   ·obtain⟨s,s1,s2,s3,s4⟩:=key j hj hne b
    rw[if_pos b,if_pos b,s2,Int.toNat_natCast,s3,(D.sl s s1 s4).2]
   ·rw[if_neg b,if_neg b]
theorem aHD (v:Vm) (k:Nat) (p K N a b:Int):bO (eT v k p K N) a b= { bO v a b with tl:=fF k p v.tl,zs:=jU v.zs (v.ps k).root p K N } :=by
 unfold bO;by_cases h1:a=1
 ·rw[if_pos h1,if_pos h1];rfl
 ·rw[if_neg h1,if_neg h1]
  by_cases h2:b=b/\a=2
  ·rw[if_pos h2.2,if_pos h2.2];rfl
  ·rw[if_neg (λh=>h2 ⟨rfl,h⟩),if_neg (λh=>h2 ⟨rfl,h⟩)];rfl
structure Gon (v u:Vm) (i:Nat):Prop where
 c:dX u ze ze []
 l8:u.tl.length<=8
 ps:u.ps=v.ps
 en:aA u i=(0,0)
 eo:∀j,j<256->j≠i->aA u j=aA v j
 bs:∀j,j<256->j≠i->∀n,n<64->cb u j n=cb v j n
 gs:∀j,j<256->j≠i->∀g,g<4->ct u j g=ct v j g
 tab:∀t,t<36->aI u t=aI v t
 fx:u.fx=v.fx
theorem aLJ (h:dX v ze ze []) (hl:v.tl.length<=8) {k:Nat} (hk:k<4) (hv:(v.ps k).live=true) {p:Nat} (hp:p<64) (he:(aA v (64*k+p)).1≠0):
 nO v.zs (v.ps k).root p 0 0=0/\aDu (eT v k p 0 0) (aA v (64*k+p))/\Gon v (bO (eT v k p 0 0) (aA v (64*k+p)).1 (aA v (64*k+p)).2) (64*k+p):=by
 have hi:64*k+p<256:=by omega
 have D:=Lj h ⟨64*k+p,hi,rfl⟩;have h0:=Ie h.A hk hv hp he;have hP:cB 0 0=0:=by decide
 obtain⟨t1,t2,t3,t4,t5,t6,t7⟩:=zT h.T h.L hk hv hp h0 hP;obtain⟨z,hz⟩:∃z,z=aA v (64*k+p):=⟨_,rfl⟩;rw[<-hz] at D⊢;obtain⟨u,hu⟩:∃u,u=bO (eT v k p 0 0) z.1 z.2:=⟨_,rfl⟩;have eu:u= { bO v z.1 z.2 with tl:=fF k p v.tl,zs:=jU v.zs (v.ps k).root p 0 0 } :=by rw[hu,aHD]
 rw[<-hu];obtain⟨d,hd⟩:∃d,d=bO v z.1 z.2:=⟨_,rfl⟩;rw[<-hd] at D eu
 obtain⟨c1,e1,q1,l1⟩:=h.swap (u:=u) (x':=ze) (K:=0) (N:=0) hk hv hp h0 hP (λh=>absurd h (by decide)) (λg hg=>by rw[aY (λh=>by cases congrArg Prod.fst h)];rfl) (λ_=>Int.le_refl _) (λs hs=>by rw[aY (λh=>by cases congrArg Prod.fst h)];rfl) (λh=>absurd rfl h) (by
  rw[Le hi];have:=h.A.all;have:=(dS ((aA v (64*k+p)).1≠0)).1
  rw[aY (p:=(0:Int)≠0) (by decide)];omega) (by rw[eu];rfl) (by rw[eu];rfl) (by rw[eu];exact D.ps) (λg hg=>by rw[eu];show d.fx g=_;rw[D.fx])
  (by rw[eu];exact⟨D.F.tl,D.F.tb,D.F.dl,D.F.ds,D.F.ul,D.F.h0,D.F.h1⟩) (λg hg=>by rw[eu,<-hz];exact D.rf g hg) (λs hs=>by rw[eu,<-hz];exact D.sr s hs)
 have Mj:∀j,j<256->j≠64*k+p->aA u j=aA v j:=λj hj hne=>by rw[e1 j hj,jB _ _ hne]
 obtain⟨b1,b2⟩:=aEr h D Mj (λg hg n hn=>by rw[eu];exact Gn h.T h.L hk hv hp h0 hP hg hn) (by rw[eu];exact D.ts) (by rw[eu]) (λj hj hne s hs=>by
  have a1:=h.A.sy s (by have:=h.jP hj;rw[hs] at this;omega);have a2:=D.sr s (by have:=h.jP hj;rw[hs] at this;omega);have a3:=iW hj hs;by_cases c:z=(2,(s:Int))
  ·have a4:=aGv hi hj (Ne.symm hne) (by rw[<-hz];exact c) hs
   rw[bP c] at a2;unfold ze at a1;omega
  ·rw[aY c] at a2;unfold ze at a1;omega)
 have hdp:=D.dp (h.V9 Ik);refine⟨t1,?_,c1,?_,by rw[eu];exact D.ps,by rw[e1 _ hi,pM],Mj,b1,b2,q1,by rw[eu];exact D.fx⟩
 ·exact hdp
 ·rw[eu];have:=xB (k:Int) p v.tl;show(fF k p v.tl).length<=8;omega
structure Emp (v u:Vm) (k:Nat) (keep:List aC) (n:Nat):Prop where
 c:dX u ze ze []
 l8:u.tl.length<=8
 ps:u.ps=v.ps
 en:∀p,p<n->p<64->(dF keep (p:Int)).isSome=false->aA u (64*k+p)=(0,0)
 eo:∀j,j<256->(∀p,p<n->p<64->(dF keep (p:Int)).isSome=false->j≠64*k+p)->aA u j=aA v j
 bs:∀j,j<256->(∀p,p<n->p<64->(dF keep (p:Int)).isSome=false->j≠64*k+p)->∀m,m<64->cb u j m=cb v j m
 gs:∀j,j<256->(∀p,p<n->p<64->(dF keep (p:Int)).isSome=false->j≠64*k+p)->∀g,g<4->ct u j g=ct v j g
 tab:∀t,t<36->aI u t=aI v t
 fx:u.fx=v.fx
theorem U8 (h:dX v ze ze []) (hl:v.tl.length<=8) {k:Nat} (hk:k<4) (hv:(v.ps k).live=true) (keep:List aC):∀n,n<=64->Emp v (iA v k keep n) k keep n/\∀m,m<n->Q3 (iA v k keep m) k m
 |0,_=>⟨⟨h,hl,rfl,λp hp=>absurd hp (Nat.not_lt_zero _),λ_ _ _=>rfl,λ_ _ _ _ _=>rfl,λ_ _ _ _ _=>rfl,λ_ _=>rfl,rfl⟩,λm hm=>absurd hm (Nat.not_lt_zero _)⟩
 |n+1,hn=>by
  obtain⟨E,hO⟩:=U8 h hl hk hv keep n (by omega);obtain⟨u,hu⟩:∃u,u=iA v k keep n:=⟨_,rfl⟩;rw[<-hu] at E;have hvu:(u.ps k).live=true:=by rw[E.ps];exact hv
  have hent:gF u k (n:Int)=aA u (64*k+n):=aCY hvu (by omega);have hstep:∀hz:(aA u (64*k+n)).1≠0,_:=λhz=>aLJ E.c E.l8 hk hvu (p:=n) (by omega) hz
  have hok:Q3 u k n:=⟨E.c.T.zb,by have:=E.l8;omega,E.c.T.get k hk hvu n (by omega),λhz=>(hstep (by rw[<-hent];exact hz)).1,by
   rw[hent];by_cases c:(aA u (64*k+n)).1=0
   ·exact .inl c
   ·exact(hstep c).2.1⟩
  refine⟨?_,λm hm=> ?_⟩
  ·rw[Il,<-hu]
   unfold J9;rw[hent];by_cases c:(dF keep (n:Int)).isSome=true\/(aA u (64*k+n)).1=0
   ·rw[if_pos c]
    refine⟨E.c,E.l8,E.ps,λp hp jZ hka=> ?_,λj hj hne=>E.eo j hj λp hp=>hne p (by omega),λj hj hne=>E.bs j hj λp hp=>hne p (by omega),λj hj hne=>E.gs j hj λp hp=>hne p (by omega),E.tab,E.fx⟩;by_cases e:p=n
    ·subst e
     rcases c with c|c
     ·rw[hka] at c;cases c
     ·have:=nH (E.c.A.er (64*k+p) (by omega))
      exact Prod.ext c (this.2.2.2.2 c)
    ·exact E.en p (by omega) jZ hka
   ·rw[if_neg c]
    have hz:(aA u (64*k+n)).1≠0:=λhh=>c (.inr hh);have hkn:(dF keep (n:Int)).isSome=false:=by
     cases hx:(dF keep (n:Int)).isSome with
     |false=>rfl
     |true=>exact absurd (.inl hx) c
    obtain⟨_,_,G⟩:=hstep hz;refine⟨G.c,G.l8,by rw[G.ps,E.ps],λp hp jZ hka=> ?_,λj hj hne=> ?_,λj hj hne m hm=> ?_,λj hj hne m hm=> ?_,λt ht=>by rw[G.tab t ht,E.tab t ht],by rw[G.fx,E.fx]⟩
    ·by_cases e:p=n
     ·subst e;exact G.en
     ·rw[G.eo _ (by omega) (by omega)];exact E.en p (by omega) jZ hka
    ·rw[G.eo j hj (hne n (by omega) (by omega) hkn)];exact E.eo j hj λp hp=>hne p (by omega)
    ·rw[G.bs j hj (hne n (by omega) (by omega) hkn) m hm];exact E.bs j hj (λp hp=>hne p (by omega)) m hm
    ·rw[G.gs j hj (hne n (by omega) (by omega) hkn) m hm];exact E.gs j hj (λp hp=>hne p (by omega)) m hm
  ·by_cases e:m=n
   ·subst e;rw[<-hu];exact hok
   ·exact hO m (by omega)
end
end
end Go.Proofs.YtoogfmbojlpjaaaGreat
namespace Go.Proofs.YtoogfmbojlpjaaaGreat
open Go.ChangeShapes Go.WideShapes Go.ChangeAt Go.RowKit Go.Joins
def wK {α:Type} (eq:α->α->Bool):List α->List α->Bool
 | [],[]=>true
 |x::xs,y::ys=>eq x y&&wK eq xs ys
 |_,_=>false
theorem aAf {α:Type} (eq:α->α->Bool):∀(xs ys:List α),xs.length≠ys.length->wK eq xs ys=false
 | [],[],h=>absurd rfl h
 |x::xs,[],_=>rfl
 | [],y::ys,_=>rfl
 |x::xs,y::ys,h=>by unfold wK;rw[aAf eq xs ys (by simpa using h),Bool.and_false]
theorem aBN {α:Type} (eq:α->α->Bool):∀(xs ys:List α) (k:Nat) (x y:α),xs[k]? =some x->ys[k]? =some y->eq x y=false->wK eq xs ys=false
 | [],_,k,x,y,h,_,_=>by simp at h
 |_::_,[],k,x,y,_,h,_=>by simp at h
 |a::xs,b::ys,0,x,y,h1,h2,h3=>by simp at h1 h2;subst h1 h2;unfold wK;rw[h3,Bool.false_and]
 |a::xs,b::ys,k+1,x,y,h1,h2,h3=>by unfold wK;rw[aBN eq xs ys k x y (by simpa using h1) (by simpa using h2) h3,Bool.and_false]
theorem Oi {α:Type} (eq:α->α->Bool):∀(xs ys:List α),xs.length=ys.length->(∀k x y,k<xs.length->xs[k]? =some x->ys[k]? =some y->eq x y=true)->wK eq xs ys=true
 | [],[],_,_=>rfl
 |x::xs,[],h,_=>by simp at h
 | [],y::ys,h,_=>by simp at h
 |x::xs,y::ys,h,h2=>by
  unfold wK;rw[h2 0 x y (by simp) rfl rfl,Oi eq xs ys (by simpa using h) (λk a b hk ha hb=>h2 (k+1) a b (by simpa using hk) (by simpa using ha) (by simpa using hb))];rfl
theorem aE3 {α:Type} {eq:α->α->Bool} (h:∀a,eq a a=true) (xs:List α):wK eq xs xs=true:=
 Oi eq xs xs rfl λk x y _ h1 h2=>by rw[h1] at h2;cases h2;exact h x
def vN (x y:bX):Bool:=x.err==y.err&&x.value==y.value&&x.fault==y.fault&&x.pos==y.pos
theorem aFN (x:bX):vN x x=true:=by simp[vN]
theorem aGU (x y:bX):∀w,(Op.equalIn 10000 35 (.agg #[.int .i64 x.err,.int .i64 x.value,.int .i64 x.fault,.int .i64 x.pos]) (.agg #[.int .i64 y.err,.int .i64 y.value,.int .i64 y.fault,.int .i64 y.pos])).run Tryz.prog w=.ok (vN x y) w:=by
 intro w;by_cases h0:x.err=y.err<;>by_cases h1:x.value=y.value<;>by_cases h2:x.fault=y.fault<;>by_cases h3:x.pos=y.pos<;>simp[go_sem,Tryz.underlying35,Tryz.underlying3,Tryz.underlying33,vN,h0,h1,h2,h3]
end Go.Proofs.YtoogfmbojlpjaaaGreat
