/- Lemmas. -/
import Derived.Test.YtoogfmbojlpjaaaGreatQ15
import Derived.Test.YtoogfmbojlpjaaaGreatQA
set_option maxRecDepth 100000
set_option maxHeartbeats 32000000
set_option linter.unusedVariables false
set_option linter.unusedSimpArgs false
namespace Go.Proofs.YtoogfmbojlpjaaaGreat
open Go.ChangeShapes Go.WideShapes Go.ChangeAt Go.RowKit Go.Joins
def aJ6 (g:Nat) (cb:Array Value) (f:eY->eY) (base:Nat) (w:World):Prop:=
 ∀(W:World) (a:eY),Below base w W->Calls Tryz.prog g (#[.agg #[.int .i64 a.r,.int .i64 a.k,.bool a.g,.bool a.s]]++cb) W λe w'=>e=.returned (.agg #[.int .i64 (f a).r,.int .i64 (f a).k,.bool (f a).g,.bool (f a).s])/\Below W.heap.size W w'
theorem aA6 {w:World} {g o:Nat} {u:Value} :w.grownBy (w.setCell ⟨g,o,none⟩ u) (some g):=
 ⟨rfl,rfl,rfl,by simp,λk hk hne=>by simp only[World.setCell,Array.getElem?_modify];rw[if_neg (λe=>hne (by rw[e]))]⟩
theorem Duo.set1 {w0 w:World} {vo:Value} {o i:List aC} {g n c k:Nat} (h:Duo w0 w vo (.slice (some ⟨g,0,none⟩) n c) o i) {x y:aC} {u:Value} (j:Nat) (hi:i[k]? =some x) (hj:(fR y)[j]? =some u) (hx:∀m v,m≠j->(fR y)[m]? =some v->(fR x)[m]? =some v):Duo w0 (w.setCell ⟨g,k*6+j,none⟩ u) vo (.slice (some ⟨g,0,none⟩) n c) o (i.set k y):=
 ⟨h.below.setCell (p:=⟨g,k*6+j,none⟩) h.ins.vP.2.1 _,h.out.frame (u:=.slice (some ⟨g,0,none⟩) n c) aA6 h.apart,h.ins.aBL gZ (by decide) j hi hj hx,h.apart⟩
theorem Duo.store {w0 w:World} {vo:Value} {o i:List aC} {g n c k:Nat} (h:Duo w0 w vo (.slice (some ⟨g,0,none⟩) n c) o i) {x:aC} (a:eY) (hi:i[k]? =some x):
 Duo w0 ((((w.setCell ⟨g,k*6+2,none⟩ (.int .i64 a.r)).setCell ⟨g,k*6+3,none⟩ (.int .i64 a.k)).setCell ⟨g,k*6+4,none⟩ (.bool a.g)).setCell ⟨g,k*6+5,none⟩ (.bool a.s)) vo (.slice (some ⟨g,0,none⟩) n c) o (i.set k ⟨x.f,x.t,a⟩):=by
 have hl:=(List.getElem?_eq_some_iff.1 hi).1;have h1:=h.set1 (y:=⟨x.f,x.t,⟨a.r,x.a.k,x.a.g,x.a.s⟩⟩) 2 hi rfl (λm v hm hv=>by
  match m,hm,hv with
  |0,_,hv=>exact hv
  |1,_,hv=>exact hv
  |3,_,hv=>exact hv
  |4,_,hv=>exact hv
  |5,_,hv=>exact hv
  |(m+6),_,hv=>simp[fR] at hv)
 have h2:=h1.set1 (x:=⟨x.f,x.t,⟨a.r,x.a.k,x.a.g,x.a.s⟩⟩) (y:=⟨x.f,x.t,⟨a.r,a.k,x.a.g,x.a.s⟩⟩) (k:=k) 3 (by rw[List.getElem?_set_self hl]) rfl (λm v hm hv=>by
  match m,hm,hv with
  |0,_,hv=>exact hv
  |1,_,hv=>exact hv
  |2,_,hv=>exact hv
  |4,_,hv=>exact hv
  |5,_,hv=>exact hv
  |(m+6),_,hv=>simp[fR] at hv)
 have h3:=h2.set1 (x:=⟨x.f,x.t,⟨a.r,a.k,x.a.g,x.a.s⟩⟩) (y:=⟨x.f,x.t,⟨a.r,a.k,a.g,x.a.s⟩⟩) (k:=k) 4 (by rw[List.getElem?_set_self (by simpa using hl)]) rfl (λm v hm hv=>by
  match m,hm,hv with
  |0,_,hv=>exact hv
  |1,_,hv=>exact hv
  |2,_,hv=>exact hv
  |3,_,hv=>exact hv
  |5,_,hv=>exact hv
  |(m+6),_,hv=>simp[fR] at hv)
 have h4:=h3.set1 (x:=⟨x.f,x.t,⟨a.r,a.k,a.g,x.a.s⟩⟩) (y:=⟨x.f,x.t,a⟩) (k:=k) 5 (by rw[List.getElem?_set_self (by simpa using hl)]) rfl (λm v hm hv=>by
  match m,hm,hv with
  |0,_,hv=>exact hv
  |1,_,hv=>exact hv
  |2,_,hv=>exact hv
  |3,_,hv=>exact hv
  |4,_,hv=>exact hv
  |(m+6),_,hv=>simp[fR] at hv)
 simpa only[List.set_set] using h4
theorem aNY {T:TypeId} {w:World} {base n c:Nat} {A:Option Addr} {xs:List aC} (h:Os fR 6 T w base (.slice A n c) xs):Rw fR 6 w w.heap.size A n xs:=by
 obtain⟨A',c',e,_,_,hr⟩:=h.row gZ;injection e with e1 e2 e3;subst e1 e2 e3;exact hr
def mix (f:eY->eY) (il:List aC) (k:Nat):List aC:=(il.take k).map (x9 f)++il.drop k
theorem aLm {f:eY->eY} {il:List aC} {k:Nat} {y:aC} (h:il[k]? =some y):(mix f il k)[k]? =some y:=by
 have hl:=(List.getElem?_eq_some_iff.1 h).1;unfold mix;rw[List.getElem?_append_right (by simp;omega),List.getElem?_drop];simp only[List.length_map,List.length_take];rw[show k+(k -min k il.length)=k by omega];exact h
theorem aLl {f:eY->eY} {il:List aC} {k:Nat} {y:aC} (h:il[k]? =some y):(mix f il k).set k ⟨y.f,y.t,f y.a⟩=mix f il (k+1):=by
 have hl:=(List.getElem?_eq_some_iff.1 h).1;unfold mix;rw[r9 h,List.map_append,List.append_assoc];rw[List.drop_eq_getElem_cons hl,(List.getElem?_eq_some_iff.1 h).2];rw[List.set_append_right _ _ (by simp;omega)];simp only[List.length_map,List.length_take];rw[show k -min k il.length=0 by omega];rfl
theorem aHW {ops:Array Oper} {rest:List Oper} {o:Oper} {a:Act} {Q:Exit->Act->World->Prop} (hgd:o.guard=none) (s x:Operand) (ho:o.op=.call { callee:=.builtin .append,args:= #[s,x],argTypes:= #[37,37] })
 (base:Nat) (v:Value) (t:List aC) (W:World) (B:Nat) (ad:Addr) (m c:Nat) (ys:List aC) (hs:a.eval s=v) (hx:a.eval x=.slice (some ad) m c) (hos:Os fR 6 99 W base v t) (hr:Rw fR 6 W B (some ad) m ys) (hb:base<=W.heap.size) (hlen:t.length+m<=1000000)
 (hK:∀A' c' w',Os fR 6 99 w' base (.slice A' (t.length+m) c') (t++ys)->Below base W w'->wpList Tryz.prog ops Q rest (a.put o.dst (.slice A' (t.length+m) c')) w'):
 wpList Tryz.prog ops Q (o::rest) a W:=
 aDP Tryz.underlying37 aCo rfl (by decide) gZ Rm hgd s x ho base v t W B ad m c ys hs hx hos hr hb (by unfold maxLen;omega) (by omega) (λA' c' w' h1 h2 _ _=>hK A' c' w' h1 h2)
theorem aBs (g:Nat) (cb:Array Value) (eg:∀args w,(callFunc g args).run Tryz.prog w=.ok (.enter g args) w) (f:eY->eY) (A:Option Addr) (n c:Nat) (xs:List aC) (a b:Int) (w:World) (B base:Nat) (hz:Rw fR 6 w B A n xs) (hB:B<=w.heap.size) (hbase:base<=w.heap.size) (hbig:n<=140737488355328)
 (hf:aJ6 g cb f base w):Calls Tryz.prog 144 #[.slice A n c,.int .i64 a,.int .i64 b,.func (.func g) #[] cb] w (TR (dY xs a b f) (dP xs a b) w):=by
 have hright:=Bl A n c xs w B hz hB hbig;have NO:Hid (∀E:Int,dP xs a b=E->E≠0->∀w',Below w.heap.size w w'->TR (dY xs a b f) (dP xs a b) w (.returned (.tuple #[.slice none 0 0,.int .i64 E])) w'):=hZ (λE h h0 w' hb=>by
  unfold dY;rw[h,if_neg h0];exact TR.nil hb)
 cases hr:bF xs with
 |false=>
  rw[hr] at hright;have tQ:=hZ (NO.out 1 (by unfold dP;rw[if_pos hr]) (by decide));clear hz NO hr;go_enter Tryz.func144,Tryz.ntmps144;go_wp2_with(go_at_call 140;refine hright.mono ?_;rintro e w1 ⟨rfl,hb1⟩)
  go_ret2
  exact tQ.out _ hb1
 |true=>
  rw[hr] at hright;have sM:=Ue a b;cases hs:nP a b with
  |false=>
   rw[hs] at sM;have tQ:=hZ (NO.out 2 (by unfold dP;rw[if_neg (by rw[hr];simp),if_pos hs]) (by decide));clear hz NO hr hs;go_enter Tryz.func144,Tryz.ntmps144;go_wp2_with(first
    |(go_at_call 140;refine hright.mono ?_;rintro e w1 ⟨rfl,hb1⟩)
    |(go_at_call 142;refine(sM w1).mono ?_;rintro e w2 ⟨rfl,hw2⟩;rw[hw2];clear hw2))
   go_ret2
   exact tQ.out _ hb1
  |true=>
   rw[hs] at sM;obtain⟨s1,s2,s3⟩:=uN.1 hs;have hgi:=Zk (fE hr) (a:=a) (b:=b);have hgt:=aAy (f:=f) (fE hr) (a:=a) (b:=b) (by omega);have hol:(gV a b xs).length<=128:=by have:=Kl a b xs;have:=mE hr;omega
   have hil:(fA a b xs).length<=64:=by have:=Ri a b xs;have:=mE hr;omega
   have Cq:n<=64:=by rw[<-hz.1];exact mE hr
   have HC:=hZ (λw1 (h1:Below w.heap.size w w1)=>Jk A n c xs a b w1 B (hz.below (h1.mono hB)) (Nat.le_trans hB h1.size) (by omega));have HJ:=hZ (λv w2 base (h:Os fR 6 99 w2 base v (gV a b xs++(fA a b xs).map (x9 f))) (hb:base<=w2.heap.size)=>Ih v _ w2 base h hgt (by simp;omega) hb);have NO3:Hid (tot (fA a b xs)<b -a->∀w',Below w.heap.size w w'->TR (dY xs a b f) (dP xs a b) w (.returned (.tuple #[.slice none 0 0,.int .i64 3])) w'):=hZ (λh=>NO.out 3 (by unfold dP;rw[if_neg (by rw[hr];simp),if_neg (by rw[hs];simp),if_pos h]) (by decide));have YES:Hid (¬tot (fA a b xs)<b -a->dP xs a b=0/\dY xs a b f=norm (gV a b xs++(fA a b xs).map (x9 f))):=hZ (λh=>by
    have hE:dP xs a b=0:=by unfold dP;rw[if_neg (by rw[hr];simp),if_neg (by rw[hs];simp),if_neg h]
    exact⟨hE,by unfold dY;rw[if_pos hE]⟩)
   generalize dY xs a b f=tl at*;generalize dP xs a b=tE at*;generalize norm (gV a b xs++(fA a b xs).map (x9 f))=nl at*;generalize gV a b xs=ol at*;generalize fA a b xs=il at*;have HX:=hZ (λ(i:Nat) (hi:i<il.length)=>(⟨il[i]'(by omega),List.getElem?_eq_getElem _⟩:∃x,il[i]? =some x));have lH:=hZ (λk x (h:il[k]? =some x)=>hgi.ok x (List.mem_of_getElem? h));have HMG:=hZ (λk y (h:il[k]? =some y)=>aLm (f:=f) h);have HMS:=hZ (λk y (h:il[k]? =some y)=>aLl (f:=f) h);have HM0:Hid (mix f il 0=il):=hZ rfl;have HML:Hid (∀k,(mix f il k).length=il.length):=hZ (λk=>by unfold mix;simp;omega);have HMN:Hid (mix f il il.length=il.map (x9 f)):=hZ (by unfold mix;simp);have HI0:Hid (tot il≠0->0<il.length):=hZ (λh=>by cases il with|nil=>exact absurd rfl h|cons _ _=>simp);obtain⟨tk,htk⟩:∃f:Nat->Int,f=λk=>tot (il.take k):=⟨_,rfl⟩;have T0:Hid (tk 0=0):=hZ (by rw[htk];rfl);have TS:Hid (∀k x,il[k]? =some x->tk (k+1)=tk k+(x.t -x.f)):=hZ (by rw[htk];exact λk x h=>(congrArg tot (r9 h)).trans (aBu _ x));have TL:Hid (∀k,k<=il.length->0<=tk k/\tk k<=4096):=hZ (by
    rw[htk];intro k hk;have:=Iz (il.take k) λx hx=>hgi.ok x (List.mem_of_mem_take hx);rw[List.length_take] at this;simp only;omega)
   have TN:Hid (tk il.length=tot il):=hZ (by rw[htk];simp only;rw[List.take_length]);generalize mix f il=mx at*;generalize il.map (x9 f)=im at*;generalize tot il=ti at*;generalize hln:il.length=ln at*;have HIL:=hZ hln;clear hz NO hr hs htk hgi hgt hln;go_enter Tryz.func144,Tryz.ntmps144;go_wp2_with(first
    |(go_at_call 140;refine hright.mono ?_;rintro e w1 ⟨rfl,hb1⟩)
    |(go_at_call 142;refine(sM w1).mono ?_;rintro e w2 ⟨rfl,hw2⟩;rw[hw2];clear hw2)
    |(go_at_call 119;refine(HC.out w1 hb1).mono ?_;rintro e w2 ⟨vo,vi,rfl,ho,hi,hap,hb2⟩;obtain⟨Ai,ci,hvi,hz1,hz2⟩:=hi.form;clear hz1 hz2;rw[HIL.out] at hvi;subst hvi))
   have HB1:=hZ hb1;have HD0:Hid (Duo w1 w2 vo (.slice Ai ln ci) ol il):=hZ ⟨hb2,ho,hi,hap⟩;have hs1:=hb1.size;clear hb1 hb2 ho hi hap hright;go_loopw [12,13,30] (λv12 v13 i wr=>∃k:Nat,k<=ln/\i=.int .i64 k/\v12=.int .i64 (tk k)/\Hid (Duo w1 wr vo (.slice Ai ln ci) ol (mx k))) (λ_ _ i _=>ln - (intOf i).toNat)
   case atStart=>exact⟨0,by omega,rfl,by rw[T0.out],hZ (by rw[HM0.out];exact HD0.out)⟩
   case round=>
    clear HD0;obtain⟨k,hk,rfl,rfl,HD⟩:=hrel;have hsz:=HD.out.below.size;by_cases hlt:k<ln
    ·obtain⟨gi,rfl⟩:=aFc HD.out.ins (by rw[HML.out];omega)
     obtain⟨y,hy⟩:=HX.out k hlt;have hmg:=HMG.out k y hy;have hcs:=HD.out.ins.cells gZ hmg;have yc0:wr.cell? ⟨gi,k*6,none⟩=some (.int .i64 y.f):=(hcs 0 _ rfl).1;have yc1:wr.cell? ⟨gi,k*6+1,none⟩=some (.int .i64 y.t):=(hcs 1 _ rfl).1;have yc2:wr.cell? ⟨gi,k*6+2,none⟩=some (.int .i64 y.a.r):=(hcs 2 _ rfl).1;have yc3:wr.cell? ⟨gi,k*6+3,none⟩=some (.int .i64 y.a.k):=(hcs 3 _ rfl).1;have yc4:wr.cell? ⟨gi,k*6+4,none⟩=some (.bool y.a.g):=(hcs 4 _ rfl).1;have yc5:wr.cell? ⟨gi,k*6+5,none⟩=some (.bool y.a.s):=(hcs 5 _ rfl).1;have yf2:wr.frozen? ⟨gi,k*6+2,none⟩=false:=(hcs 2 _ rfl).2;have yf3:wr.frozen? ⟨gi,k*6+3,none⟩=false:=(hcs 3 _ rfl).2;have yf4:wr.frozen? ⟨gi,k*6+4,none⟩=false:=(hcs 4 _ rfl).2;have yf5:wr.frozen? ⟨gi,k*6+5,none⟩=false:=(hcs 5 _ rfl).2;have hgl:=HD.out.ins.vP.1;have HT:=hZ (TS.out k y hy);have HM1:Hid ((mx k).set k ⟨y.f,y.t,f y.a⟩=mx (k+1)):=hZ (HMS.out k y hy);have aPq:=hZ hmg;obtain⟨q1,q2,q3⟩:=lH.out k y hy;obtain⟨t1,t2⟩:=TL.out k hk;have m4:wrap64 (y.t -y.f)=y.t -y.f:=by unfold wrap64;omega
     have m5:wrap64 (tk k+(y.t -y.f))=tk k+(y.t -y.f):=by unfold wrap64;omega
     have m6:IntKind.i64.wrap (y.t -y.f)=y.t -y.f:=by rw[IntKind.wrap_i64];omega
     have m7:IntKind.i64.wrap (tk k+(y.t -y.f))=tk k+(y.t -y.f):=by rw[IntKind.wrap_i64];omega
     have hk0:(0:Int)<=(k:Int):=by omega
     have hk1:(k:Int)<(ln:Int):=by omega
     have hcall:=λ(W:World) (h:Below wr.heap.size wr W)=>hf W y.a ((((HB1.out.mono hbase).trans (HD.out.below.mono (Nat.le_trans hbase hs1))).trans (h.mono (Nat.le_trans (Nat.le_trans hbase hs1) hsz))));have aOg:=hZ hcall;clear hcs hy hmg hcall;go_wp2
     go_quiet (fail)
     have HQ:=hZ (aOg.out _ (below_drewN wr.heap.size wr nq));go_wp2_with(go_at_fn g;refine HQ.out.mono ?_;rintro e w2 ⟨rfl,hb2⟩;have zc2:w2.cell? ⟨gi,k*6+2,none⟩=some (.int .i64 y.a.r):=(hb2.cell (p:=⟨gi,k*6+2,none⟩) hgl).trans yc2;have zf2:w2.frozen? ⟨gi,k*6+2,none⟩=false:=(hb2.frozen (p:=⟨gi,k*6+2,none⟩) hgl).trans yf2;have zc3:w2.cell? ⟨gi,k*6+3,none⟩=some (.int .i64 y.a.k):=(hb2.cell (p:=⟨gi,k*6+3,none⟩) hgl).trans yc3;have zf3:w2.frozen? ⟨gi,k*6+3,none⟩=false:=(hb2.frozen (p:=⟨gi,k*6+3,none⟩) hgl).trans yf3;have zc4:w2.cell? ⟨gi,k*6+4,none⟩=some (.bool y.a.g):=(hb2.cell (p:=⟨gi,k*6+4,none⟩) hgl).trans yc4;have zf4:w2.frozen? ⟨gi,k*6+4,none⟩=false:=(hb2.frozen (p:=⟨gi,k*6+4,none⟩) hgl).trans yf4;have zc5:w2.cell? ⟨gi,k*6+5,none⟩=some (.bool y.a.s):=(hb2.cell (p:=⟨gi,k*6+5,none⟩) hgl).trans yc5;have zf5:w2.frozen? ⟨gi,k*6+5,none⟩=false:=(hb2.frozen (p:=⟨gi,k*6+5,none⟩) hgl).trans yf5)
     go_roundw
     case rel=>exact⟨k+1,by omega,by go_num,by rw[HT.out],hZ (by rw[<-HM1.out];exact((HD.out.on ((below_drewN wr.heap.size wr nq).trans (hb2.mono (below_drewN wr.heap.size wr nq).size))).store (f y.a) aPq.out))⟩
     case measure=>simp[intOf];omega
    ·have hkn:k=ln:=by omega
     subst hkn;obtain⟨A3,c3,rfl,hz1,hz2⟩:=HD.out.out.form;clear hz1 hz2;obtain⟨t1,t2⟩:=TL.out k hk;have m5:wrap64 (b -a)=b -a:=by unfold wrap64;omega
     by_cases hlt2:tk k<b -a
     ·have NO4:=hZ (NO3.out (by rw[<-TN.out];exact hlt2) wr (HB1.out.trans (HD.out.below.mono hs1)))
      go_wp2
      go_ret2
      exact NO4.out
     ·obtain⟨e1,e2⟩:=YES.out (by have:=TN.out;omega)
      subst e1 e2;have hk0:=HI0.out (by have:=TN.out;omega);have hge:b -a<=tk k:=by omega
      obtain⟨gi,rfl⟩:=aFc HD.out.ins (by rw[HML.out];exact hk0);have HR:=hZ (aNY HD.out.ins);rw[HMN.out] at HR;have HO:=hZ HD.out.out;have hoi:ol.length+k<=1000000:=by omega
      clear hk0;go_wp2_with(first
       |(at_builtin;refine aHW rfl _ _ rfl w1.heap.size (.slice A3 ol.length c3) ol wr wr.heap.size ⟨gi,0,none⟩ k ci im rfl rfl HO.out HR.out hsz hoi ?_;intro A' c' w3 ho3 hb3)
       |(go_at_call 143;refine(HJ.out _ w3 w1.heap.size ho3 (Nat.le_trans hsz hb3.size)).mono ?_;rintro e w4 ⟨v4,rfl,jH,hb4⟩))
      go_ret2
      exact⟨_,rfl,jH.gD (Nat.le_trans (Nat.le_trans hs1 hsz) hb3.size),HB1.out.trans ((HD.out.below.trans (hb3.trans hb4)).mono hs1)⟩
theorem aGS (w:World) (base:Nat):aJ6 145 #[] (λa=>⟨a.r,a.k,a.g,true⟩) base w:=by
 intro W a hW;go_enter Tryz.func145,Tryz.ntmps145;go_wp2;try simp only[Exit.inBlock,Exit.then]
 refine bodyPost_ret (v:=.agg #[.int .i64 a.r,.int .i64 a.k,.bool a.g,.bool true]) (by simp[results,Tryz.results145,go_sem]) rfl ⟨rfl,?_⟩;exact((Below.refl _ _).alloc (nR _) _).alloc (by simp) _
theorem TR.on {l:List aC} {E:Int} {w w1:World} {e:Ending} {w':World} (h:TR l E w1 e w') (hb:Below w.heap.size w w1):TR l E w e w':=by
 obtain⟨v,he,ho,hb2⟩:=h;exact⟨v,he,ho.gD hb.size,hb.trans (hb2.mono hb.size)⟩
theorem Vb (A:Option Addr) (n c:Nat) (xs:List aC) (a b:Int) (w:World) (B:Nat) (hz:Rw fR 6 w B A n xs) (hB:B<=w.heap.size) (hbig:n<=140737488355328):
 Calls Tryz.prog 98 #[.slice A n c,.int .i64 a,.int .i64 b] w (TR (dY xs a b λa=>⟨a.r,a.k,a.g,true⟩) (dP xs a b) w):=by
 have hcall:=aBs _ _ (enters_of Tryz.func145 (by kernel_rfl) rfl) _ A n c xs a b w B w.heap.size hz hB (nR _) hbig (aGS w w.heap.size);generalize dY xs a b (λa=>⟨a.r,a.k,a.g,true⟩)=tl at*;generalize dP xs a b=tE at*;clear hz;go_enter Tryz.func98,Tryz.ntmps98;go_wp2_with(go_at_call 144;refine hcall.mono ?_;rintro e w1 ⟨v1,rfl,ho1,hb1⟩)
 go_ret2
 exact⟨_,rfl,ho1,hb1⟩
end Go.Proofs.YtoogfmbojlpjaaaGreat
