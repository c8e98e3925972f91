/- Lemmas. -/
import Derived.Shelf.Abstract
import Derived.Test.YtoogfmbojlpjaaaGreatQ5
import Derived.Test.YtoogfmbojlpjaaaGreatQ31
import Derived.Test.YtoogfmbojlpjaaaGreatQ12
import Derived.Test.YtoogfmbojlpjaaaGreatQ6
import Derived.Test.YtoogfmbojlpjaaaGreatQA
set_option maxRecDepth 100000
set_option maxHeartbeats 32000000
set_option linter.unusedVariables false
set_option linter.unusedSimpArgs false
namespace Go.Proofs.YtoogfmbojlpjaaaGreat
open Go.ChangeShapes Go.WideShapes Go.ChangeAt Go.RowKit Go.Joins
theorem aJo (w:World) (a:Option Addr) (n c n' c':Nat):(binOp .eql 60 (.slice a n c) (.slice none n' c')).run Tryz.prog w=.ok (.bool a.isNone) w:=Lib.run_eql_slice_nil w _ _ a n c n' c' Tryz.underlying60
theorem aEJ (A:Option Addr) (n c:Nat) (xs:List iO) (w:World) (B:Nat) (hz:Rw fC 4 w B A n xs) (_:B<=w.heap.size) (hbig:n<=4398046511104):
 Calls Tryz.prog 128 #[.slice A n c] w λe w'=>∃v,e=.returned v/\Os fC 4 210 w' w.heap.size v xs/\Below w.heap.size w w':=by
 have q:=aJo;have hln:=hz.1;subst hln;cases A with
 |none=>
  have h0:xs=[]:=by
   rcases Nat.eq_zero_or_pos xs.length with h|h
   ·exact List.eq_nil_of_length_eq_zero h
   ·obtain⟨_,_,e,_⟩:=hz.2.2 h;cases e
  subst h0;clear hz;go_enter Tryz.func128,Tryz.ntmps128;go_wp2;go_ret;exact⟨_,rfl,Os.nil,Below.refl _ _⟩
 |some x=>
  obtain⟨i0,hi,hz0,hz1,hz2⟩:=info_parts aHi;obtain⟨hl,hcell⟩:=Rw.cells qE (by decide) hz;have HC:=hZ hcell;have HL:=hZ hl;clear hcell hl hz;go_enter Tryz.func128,Tryz.ntmps128;go_wp2_with(at_builtin;refine wpList_append_own _ rfl _ _ 60 rfl w.heap.size 210 i0 (.agg #[.int .i64 0,.int .i64 0,.int .i64 0,.int .i64 0]) 4 32 Tryz.underlying60 hi hz0 hz1 hz2 rfl (by decide) _ _ _ rfl (World.ownsRow_made w #[] 0 (nR _) (Nat.zero_le _) rfl) x xs.length c (xs.flatMap fC) rfl ?qc1 ?qc2 ?qc3 ?qc4 ?qc5 ?qc6 ?_)
  case qc1=>exact HL.out
  case qc2=>
   intro j u hj;exact Lib.cell?_alloc_some _ (HC.out j u hj)
  case qc3=>exact aHB xs
  case qc4=>unfold maxLen;omega
  case qc5=>omega
  case qc6=>simp
  intro v' w1 hown hgrow hnil;go_wp2;go_ret;exact⟨v',rfl,by simpa[Os] using hown,((Below.refl _ w).alloc (nR _) _).grown hgrow (by simp) (by intro k hk;simp[Value.ownBlock] at hk;omega)⟩
def aBh (g:Nat) (lb:Array Value) (p:iO->Bool) (base:Nat) (w:World):Prop:=
 ∀(W:World) (x:iO),Below base w W->Calls Tryz.prog g (#[.agg #[.int .i64 x.p,.int .i64 x.g,.int .i64 x.k,.int .i64 x.n]]++lb) W λe w'=>e=.returned (.bool (p x))/\Below W.heap.size W w'
theorem aDK (g:Nat) (lb:Array Value) (eg:∀args w,(callFunc g args).run Tryz.prog w=.ok (.enter g args) w) (p:iO->Bool) (A:Option Addr) (n c:Nat) (xs:List iO) (w:World) (B base:Nat) (hz:Rw fC 4 w B A n xs) (hB:B<=w.heap.size) (hbase:base<=w.heap.size) (hbig:n<=140737488355328)
 (hp:aBh g lb p base w):Calls Tryz.prog 162 #[.slice A n c,.func (.func g) #[] lb] w λe w'=>e=.returned (.int .i64 (idxOf p xs))/\Below w.heap.size w w':=by
 have hln:=hz.1;have H1:=hZ (λ(i:Nat) (x:iO) (h:xs[i]? =some x) (hi:i<xs.findIdx p)=>(by
  have hl:=(List.getElem?_eq_some_iff.1 h).1;have:=List.not_of_lt_findIdx hi;rw[(List.getElem?_eq_some_iff.1 h).2] at this;simpa using this:p x=false))
 have H2:=hZ (λ(x:iO) (h:xs[xs.findIdx p]? =some x)=>(by
  have hl:=(List.getElem?_eq_some_iff.1 h).1;have:=List.findIdx_getElem (w:=hl);rw[(List.getElem?_eq_some_iff.1 h).2] at this;exact this:p x=true))
 have hfl:xs.findIdx p<=n:=by rw[<-hln];exact List.findIdx_le_length
 have HI:Hid (idxOf p xs=if xs.findIdx p<n then(xs.findIdx p:Int) else -1):=hZ (by unfold idxOf;rw[hln]);have HX:=hZ (λ(i:Nat) (hi:i<n)=>(⟨xs[i]'(by omega),List.getElem?_eq_getElem _⟩:∃x,xs[i]? =some x));generalize xs.findIdx p=m at*;have HZ:=hZ hz;have HP:=hZ hp;clear hz hp hln;rcases Nat.eq_zero_or_pos n with h0|h0
 ·subst h0
  go_enter Tryz.func162,Tryz.ntmps162;go_wp2
  go_loop [5,8] (λ_ i=>i=.int .i64 0) (λ_ i=>1 - (intOf i).toNat)
  case atStart=>exact rfl
  case round=>
   subst hrel;go_wp2;go_ret;exact⟨iR (by rw[HI.out,if_neg (by omega)]),Below.refl _ _⟩
 ·obtain⟨b,off,rfl,hb⟩:=HZ.out.open h0
  go_enter Tryz.func162,Tryz.ntmps162;go_wp2;go_loopw [5,8] (λ_ i wr=>∃k:Nat,k<=m/\i=.int .i64 k/\Hid (Below w.heap.size w wr)) (λ_ i _=>n - (intOf i).toNat)
  case atStart=>exact⟨0,by omega,rfl,hZ (Below.refl _ _)⟩
  case round=>
   obtain⟨k,hk,rfl,HB⟩:=hrel;by_cases hlt:k<n
   ·obtain⟨x,hx⟩:=HX.out k hlt
    have hc:=(HZ.out.below (HB.out.mono hB)).at_ qE hx;have c0:wr.cell? ⟨b,off+k*4,none⟩=some (.int .i64 x.p):=hc 0 _ rfl;have c1:wr.cell? ⟨b,off+k*4+1,none⟩=some (.int .i64 x.g):=hc 1 _ rfl;have c2:wr.cell? ⟨b,off+k*4+2,none⟩=some (.int .i64 x.k):=hc 2 _ rfl;have c3:wr.cell? ⟨b,off+k*4+3,none⟩=some (.int .i64 x.n):=hc 3 _ rfl;have hcall:=HP.out wr x (HB.out.mono hbase);by_cases hm:k<m
    ·have hpx:=H1.out k x hx hm
     rw[hpx] at hcall;have Db:=hZ hx;clear hx hc hpx;go_wp2_with(go_at_fn g;refine hcall.mono ?_;rintro e w' ⟨rfl,hb'⟩)
     go_roundw
     case rel=>exact⟨k+1,by omega,by go_num,hZ (HB.out.trans (hb'.mono HB.out.size))⟩
     case measure=>simp[intOf];omega
    ·have wD:k=m:=by omega
     subst wD;have hpx:=H2.out x hx;rw[hpx] at hcall;have Db:=hZ hx;clear hx hc hpx;go_wp2_with(go_at_fn g;refine hcall.mono ?_;rintro e w' ⟨rfl,hb'⟩)
     go_ret;exact⟨iR (by rw[HI.out,if_pos hlt]),HB.out.trans (hb'.mono HB.out.size)⟩
   ·have wD:k=m:=by omega
    subst wD;go_wp2;go_ret;exact⟨iR (by rw[HI.out,if_neg hlt]),HB.out⟩
theorem Qb (g:Nat) (lb:Array Value) (eg:∀args w,(callFunc g args).run Tryz.prog w=.ok (.enter g args) w) (p:iO->Bool) (v:Value) (xs:List iO) (w:World) (base:Nat) (ho:Os fC 4 210 w base v xs) (hbase:base<=w.heap.size) (hbig:xs.length<=140737488355328)
 (hp:aBh g lb p base w):Calls Tryz.prog 127 #[v,.func (.func g) #[] lb] w (Gives fC 4 210 base w (xs.filter λx=> !p x)):=by
 have Fv:=hZ (λA c (hz:Rw fC 4 w w.heap.size A xs.length xs)=>aDK g lb eg p A xs.length c xs w w.heap.size base hz (nR _) hbase hbig hp);have HP:=hZ hp;clear hp;rcases ho with⟨h1,⟨rfl,h0⟩|⟨gb,cap,cur,rfl,hg,hh,hn,hm,hz,hx⟩⟩
 ·obtain rfl:=List.eq_nil_of_length_eq_zero h0
  have hcall:=Fv.out none 0 Rw.nil;clear Fv h1 h0;go_enter Tryz.func127,Tryz.ntmps127;go_wp2_with(go_at_call 162;refine hcall.mono ?_;rintro e w' ⟨rfl,hb'⟩)
  go_ret;exact⟨_,rfl,Os.nil,hb'.mono hbase⟩
 ·have ho:Os fC 4 210 w base (.slice (some ⟨gb,0,none⟩) xs.length cap) xs:=⟨h1,.inr ⟨gb,cap,cur,rfl,hg,hh,hn,hm,hz,hx⟩⟩
  have hgl:=kM hh;clear h1 hh hz hx;obtain⟨A0,c0,e0,_,_,hr⟩:=ho.row qE;injection e0 with e1 e2 e3;subst e1 e3;clear e2;have hcall:=Fv.out _ cap hr;clear Fv hr;by_cases hlt:xs.findIdx p<xs.length
  ·have HIO:Hid (idxOf p xs=((xs.findIdx p:Nat):Int)):=hZ (by unfold idxOf;rw[if_pos hlt])
   rw[HIO.out] at hcall;have HD:=hZ (qH.start (List.getElem?_eq_getElem hlt));have HX:=hZ (λ(i:Nat) (hi:i<xs.length)=>(⟨xs[i]'(by omega),List.getElem?_eq_getElem _⟩:∃x,xs[i]? =some x));have HO:=hZ ho;clear ho HIO;generalize xs.findIdx p=m at*;have hne:(((m:Nat):Int)== -1)=false:=by simp
   go_enter Tryz.func127,Tryz.ntmps127;go_wp2_with(go_at_call 162;refine hcall.mono ?_;rintro e w1 ⟨rfl,hb1⟩)
   go_loopw [5,6] (λi j wr=>∃(ki kj:Nat) (ys:List iO),i=.int .i64 ki/\j=.int .i64 kj/\ki<kj/\kj<=xs.length/\Hid (qH p xs ki kj ys)/\Hid (Os fC 4 210 wr base (.slice (some ⟨gb,0,none⟩) xs.length cap) ys)/\Hid (Below base w wr)/\gb<wr.heap.size) (λ_ j _=>xs.length - (intOf j).toNat)
   case atStart=>exact⟨m,m+1,xs,rfl,by go_num,by omega,by omega,HD,hZ (HO.out.below hb1 (nR _)),hZ (hb1.mono hbase),by have:=hb1.size;omega⟩
   case round=>
    obtain⟨ki,kj,ys,rfl,rfl,hij,hjn,HJ,HOr,HB,hgr⟩:=hrel;by_cases hlt2:kj<xs.length
    ·obtain⟨x,hx⟩:=HX.out kj hlt2
     have hy:=HJ.out.at_ hx;have hcs:=HOr.out.cells qE hy;have c0:wr.cell? ⟨gb,kj*4,none⟩=some (.int .i64 x.p):=(hcs 0 _ rfl).1;have c1:wr.cell? ⟨gb,kj*4+1,none⟩=some (.int .i64 x.g):=(hcs 1 _ rfl).1;have c2:wr.cell? ⟨gb,kj*4+2,none⟩=some (.int .i64 x.k):=(hcs 2 _ rfl).1;have c3:wr.cell? ⟨gb,kj*4+3,none⟩=some (.int .i64 x.n):=(hcs 3 _ rfl).1;obtain⟨old,hold⟩:∃y,ys[ki]? =some y:=⟨ys[ki]'(by have:=HJ.out.len;omega),List.getElem?_eq_getElem _⟩;have Yd:=hZ hx;have HYY:=hZ hold;clear hx hy hcs hold;have hbw:=HB.out.size;go_wp2_with fail
     refine(HP.out _ x (HB.out.alloc (by omega) _)).mono ?_;rintro e w2 ⟨rfl,hb2⟩;have hW:=((Below.refl wr.heap.size wr).alloc (nR _) (.cells #[.int .i64 x.p,.int .i64 x.g,.int .i64 x.k,.int .i64 x.n] 210)).trans (hb2.mono (by simp));have rX:=hZ (HOr.out.below hW (nR _));have HB2:=hZ (HB.out.trans (hW.mono (by omega)));obtain⟨hbc,hbf⟩:=wO hb2;have hsz2:wr.heap.size<w2.heap.size:=by have:=hb2.size;simp at this;omega
     cases hq:p x with
     |true=>
      have HQ:=hZ hq;clear hq;go_wp2;go_roundw
      case rel=>exact⟨ki,kj+1,ys,rfl,by go_num,by omega,by omega,hZ (HJ.out.skip Yd.out HQ.out),rX,HB2,by omega⟩
      case measure=>simp[intOf];omega
     |false=>
      have HQ:=hZ hq;clear hq;have hco:=rX.out.cells qE HYY.out;have o0:w2.cell? ⟨gb,ki*4,none⟩=some (.int .i64 old.p):=(hco 0 _ rfl).1;have f0:w2.frozen? ⟨gb,ki*4,none⟩=false:=(hco 0 _ rfl).2;have o1:w2.cell? ⟨gb,ki*4+1,none⟩=some (.int .i64 old.g):=(hco 1 _ rfl).1;have f1:w2.frozen? ⟨gb,ki*4+1,none⟩=false:=(hco 1 _ rfl).2;have o2:w2.cell? ⟨gb,ki*4+2,none⟩=some (.int .i64 old.k):=(hco 2 _ rfl).1;have f2:w2.frozen? ⟨gb,ki*4+2,none⟩=false:=(hco 2 _ rfl).2;have o3:w2.cell? ⟨gb,ki*4+3,none⟩=some (.int .i64 old.n):=(hco 3 _ rfl).1;have f3:w2.frozen? ⟨gb,ki*4+3,none⟩=false:=(hco 3 _ rfl).2;clear hco;have hkn:ki<xs.length:=by omega
      have b0:w2.cell? ⟨wr.heap.size,0,none⟩=some (.int .i64 x.p):=by rw[hbc _ _ (by simp)];simp[go_sem]
      have b1:w2.cell? ⟨wr.heap.size,1,none⟩=some (.int .i64 x.g):=by rw[hbc _ _ (by simp)];simp[go_sem]
      have b2:w2.cell? ⟨wr.heap.size,2,none⟩=some (.int .i64 x.k):=by rw[hbc _ _ (by simp)];simp[go_sem]
      have b3:w2.cell? ⟨wr.heap.size,3,none⟩=some (.int .i64 x.n):=by rw[hbc _ _ (by simp)];simp[go_sem]
      clear hbc hbf hb2;go_wp2;go_roundw
      case rel=>
       have HS:=rX.out.set qE (by decide) (i:=ki) (by have:=HJ.out.len;omega) x;exact⟨ki+1,kj+1,ys.set ki x,by go_num,by go_num,by omega,by omega,hZ (HJ.out.keep Yd.out HQ.out),hZ HS,hZ (below_setCells hg (fC x) (ki*4) _ HB2.out),(by simp;omega)⟩
      case measure=>simp[intOf];omega
    ·have aON:kj=xs.length:=by omega
     have hin:ki<xs.length:=by omega
     have hic:ki<cap:=by omega
     obtain⟨w',hcl,hw1,hw2,hw3⟩:=HOr.out.clear (c':=cap -ki) qE (by decide) Tryz.underlying60 Tryz.zeroValue210 (by decide) (by decide) hin;have HW:=hZ hw2;have HW3:=hZ hw3;clear hw1 hw2 hw3;go_wp2;go_ret;have HJ2:=HJ.out;rw[aON] at HJ2;exact⟨_,rfl,by rw[<-HJ2.done];exact HW3.out,HW.out _ _ hg HB.out⟩
  ·have HIO:Hid (idxOf p xs= -1):=hZ (by unfold idxOf;rw[if_neg hlt])
   rw[HIO.out] at hcall;have HF:=hZ (filter_none hlt);have HO:=hZ ho;clear ho HIO hlt;go_enter Tryz.func127,Tryz.ntmps127;go_wp2_with(go_at_call 162;refine hcall.mono ?_;rintro e w' ⟨rfl,hb'⟩)
   go_ret;exact⟨_,rfl,by rw[HF.out];exact HO.out.below hb' (nR _),hb'.mono hbase⟩
def fT (t:mP):List Value:=[.int .i64 t.p,.int .i64 t.f,.int .i64 t.t]
theorem aCW (x:mP):(fT x).length=3:=rfl
theorem aLM:∀(x:mP),∀u∈fT x,u.oneCell'=true:=by intro x;simp[fT,Value.oneCell']
theorem aMQ:(Tryz.prog.info? 163).map (λi=>(i.zero,i.size,i.bytes))=some (some (.agg #[.int .i64 0,.int .i64 0,.int .i64 0]),3,24):=by kernel_rfl
theorem aJJ {ops:Array Oper} {rest:List Oper} {o:Oper} {a:Act} {Q:Exit->Act->World->Prop} (hgd:o.guard=none) (s x:Operand) (ho:o.op=.call { callee:=.builtin .append,args:= #[s,x],argTypes:= #[160,160] })
 (base:Nat) (v:Value) (t:List mP) (W:World) (c:mP) (gx:Nat) (hs:a.eval s=v) (hx:a.eval x=.slice (some ⟨gx,0,none⟩) 1 1) (hgx:gx=W.heap.size) (hos:Os fT 3 163 W base v t) (hb:base<=W.heap.size) (hlen:t.length+1<=1000)
 (hK:∀g' c' w',Os fT 3 163 w' base (.slice (some ⟨g',0,none⟩) (t.length+1) c') (t++ [c])->Below base W w'->base<=g'->t.length+1<=c'->c'<=maxLen->wpList Tryz.prog ops Q rest (a.put o.dst (.slice (some ⟨g',0,none⟩) (t.length+1) c')) w'):
 wpList Tryz.prog ops Q (o::rest) a (W.alloc (.cells #[.int .i64 c.p,.int .i64 c.f,.int .i64 c.t] 163)):=
 nW Tryz.underlying160 aMQ rfl (by decide) aCW aLM hgd s x ho base v t W c gx hs hx hgx hos hb (by unfold maxLen;omega) (by omega) hK
def Dx (e a:Int) (f:Nat):Prop:=e<=a\/65 -a/64<=f
theorem Dx.pos {e a:Int} {f:Nat} (h:Dx e a f) (hl:a<e) (he:e<=4096):∃g,f=g+1:=by
 unfold Dx at h;exact⟨f -1,by omega⟩
theorem Dx.next {e a:Int} {f:Nat} (h:Dx e a (f+1)) (hl:a<e):Dx e (min e ((a/64+1)*64)) f:=by
 unfold Dx at*;by_cases hm:e<=(a/64+1)*64
 ·left;omega
 ·right
  have:min e ((a/64+1)*64)=(a/64+1)*64:=by omega
  rw[this];omega
theorem aId {e a:Int} (h:¬a<e):∀f,kP e f a=[]
 |0=>rfl
 |f+1=>if_neg h
theorem aGy {e a:Int} {f:Nat} (h:a<e):kP e (f+1) a=⟨a/64,a -a/64*64,min e ((a/64+1)*64) -a/64*64⟩::kP e f (min e ((a/64+1)*64)):=if_pos h
theorem aDz (ad sz:Int) (h0:0<=ad) (h1:0<=sz) (h2:ad+sz<=4096) (w:World):
 Calls Tryz.prog 84 #[.int .i64 ad,.int .i64 sz] w (Gives fT 3 163 w.heap.size w (dD ad sz)):=by
 have HT:Hid (dD ad sz=kP (ad+sz) 65 ad):=hZ rfl;have lT:Hid (Dx (ad+sz) ad 65):=hZ (.inr (by omega));generalize dD ad sz=ts at*;go_enter Tryz.func84,Tryz.ntmps84;go_wp2;go_loopw [5,6] (λv i wr=>∃(a:Int) (f:Nat) (ys:List mP),0<=a/\a<=4096/\i=.int .i64 a/\ys.length+f=65/\Hid (Dx (ad+sz) a f)/\Hid (ts=ys++kP (ad+sz) f a)/\Hid (Os fT 3 163 wr w.heap.size v ys)/\Hid (Below w.heap.size w wr)) (λ_ i _=>4097 - (intOf i).toNat)
 case atStart=>exact⟨ad,65,[],h0,by omega,rfl,rfl,lT,HT,hZ Os.nil,hZ (Below.refl _ _)⟩
 case round=>
  obtain⟨a,f,ys,ha0,ha1,rfl,hlen,HF,rW,HO,HB⟩:=hrel;have hsz:=HB.out.size;have hdv:Int.tdiv a 64=a/64:=Int.tdiv_eq_ediv_of_nonneg ha0;by_cases hlt:a<ad+sz
  ·obtain⟨g,rfl⟩:=HF.out.pos hlt (by omega)
   have Js:=hZ (HF.out.next hlt);have aPg:Hid (ts=(ys++ [⟨a/64,a -a/64*64,min (ad+sz) ((a/64+1)*64) -a/64*64⟩])++kP (ad+sz) g (min (ad+sz) ((a/64+1)*64))):=hZ (by rw[rW.out,aGy hlt,List.append_assoc];rfl);clear HF rW;have HM:Hid (min (ad+sz) ((a/64+1)*64)<=4096/\a<min (ad+sz) ((a/64+1)*64)):=hZ (by omega);have hd:0<=a/64/\a/64<=64:=by omega
   go_wp2_with(at_builtin;refine aJJ rfl _ _ rfl w.heap.size u5 ys wr ⟨a/64,a -a/64*64,min (ad+sz) ((a/64+1)*64) -a/64*64⟩ wr.heap.size rfl rfl rfl HO.out hsz (by omega) ?_;intro g' c' w' ho hb3 hbg hcc hm)
   go_roundw
   case rel=>exact⟨min (ad+sz) ((a/64+1)*64),g,ys++ [⟨a/64,a -a/64*64,min (ad+sz) ((a/64+1)*64) -a/64*64⟩],by omega,HM.out.1,rfl,by simp;omega,Js,aPg,hZ ho,hZ (HB.out.trans hb3)⟩
   case measure=>have:=HM.out;simp[intOf];omega
  ·have HE:Hid (ts=ys):=hZ (by rw[rW.out,aId hlt,List.append_nil])
   have hle:ad+sz<=a:=by omega
   go_wp2;go_ret;exact⟨_,rfl,by rw[HE.out];exact HO.out,HB.out⟩
end Go.Proofs.YtoogfmbojlpjaaaGreat
namespace Go.Proofs.YtoogfmbojlpjaaaGreat
structure Fp where
 live:Bool
 rg:List aC
 ks:aJ
 bt:Nat->Nat->Int
 tg:Nat->Nat->Int
abbrev Fw:=Nat->Fp
def eO (w:Fw) (k:Nat) (p:Fp):Fw:=λi=>if i=k then p else w i
theorem dN (w:Fw) (k:Nat) (p:Fp):eO w k p k=p:=by unfold eO;rw[if_pos rfl]
theorem gL (w:Fw) {k i:Nat} (p:Fp) (h:i≠k):eO w k p i=w i:=by unfold eO;rw[if_neg h]
def sV:Fp:=⟨false,[],Ar,λ_ _=>0,λ_ _=>0⟩
def aB8:Fw:=eO (λ_=>sV) 0 ⟨true,[],K8,λ_ _=>0,λ_ _=>0⟩
def jO (w:Fw):Int:=tot (w 0).rg+tot (w 1).rg+tot (w 2).rg+tot (w 3).rg
def yU (w:Fw):Nat:=if(w 0).live=false then 0 else if(w 1).live=false then 1 else if(w 2).live=false then 2 else if(w 3).live=false then 3 else 4
def yP (w:Fw) (p:Fp):Fw×bX:=
 if yU w=4\/64<jO w+tot p.rg then(w,aB 4) else(eO w (yU w) p,⟨0,(yU w:Int),0,0⟩)
def rC (p:Fp) (t:mP):List Int:=(List.range ((t.t -1)/16+1 -t.f/16).toNat).map λi=>p.tg t.p.toNat ((t.f/16).toNat+i)
def pX (p:Fp) (o:aL) (t:mP):Int×Int:=
 if kJ p.rg p.ks t.p (iU o.kind)≠0 then(kJ p.rg p.ks t.p (iU o.kind),t.p*64+t.f)
 else if o.kind=13 then(if((dF p.rg t.p).getD zA).g=false then(4,t.p*64+t.f) else(0,0))
 else if oP ((dF p.rg t.p).getD zA).g (iU o.kind) (rC p t) o.tag≠0 then(oP ((dF p.rg t.p).getD zA).g (iU o.kind) (rC p t) o.tag,max (t.p*64+t.f) (t.p*64+(t.f/16+sF ((dF p.rg t.p).getD zA).g (iU o.kind) (rC p t) o.tag)*16))
 else(0,0)
def nD (p:Fp) (o:aL):List mP->Int×Int
 | []=>(0,0)
 |t::l=>if(pX p o t).1≠0 then pX p o t else nD p o l
def Fh (b:Nat->Nat->Int) (a:Int):Int:=b (a/64).toNat (a%64).toNat
def yJ (b:Nat->Nat->Int) (addr:Int):Nat->Int
 |0=>0
 |k+1=>yJ b addr k+Fh b (addr+k)*256^k
def sZ (b:Nat->Nat->Int) (addr size value:Int):Nat->Nat->Int:=λn i=>
 if addr<=(n*64+i:Nat)/\((n*64+i:Nat):Int)<addr+size then value/256^(((n*64+i:Nat):Int) -addr).toNat%256 else b n i
def Cj (g:Nat->Nat->Int) (addr size tag:Int):Nat->Nat->Int:=λn i=>
 if addr<=(n*64+i*16:Nat)/\((n*64+i*16:Nat):Int)<addr+size then tag else g n i
def o8 (p:Fp) (o:aL):Fp×bX:=
 if gM o=false then(p,aB 2)
 else if(nD p o (dD o.addr (aU o))).1≠0 then(p,Ca (nD p o (dD o.addr (aU o))).1 (nD p o (dD o.addr (aU o))).2)
 else if o.kind=13 then({ p with tg:=Cj p.tg o.addr (aU o) o.tag },aB 0)
 else if o.kind=11 then({ p with bt:=sZ p.bt o.addr o.size o.value },aB 0)
 else(p,⟨0,yJ p.bt o.addr o.size.toNat,0,0⟩)
def Fg (p:Fp):Fp:= { p with bt:=λn i=>if(dF p.rg n).isNone then 0 else p.bt n i,tg:=λn i=>if(dF p.rg n).isNone then 0 else p.tg n i }
def mW (w:Fw) (o:aL):Fw×bX:=
 if o.kind<1\/14<o.kind then(w,aB 5)
 else if o.kind=14 then(w,aB 0)
 else if o.proc<0\/4<=o.proc\/(w o.proc.toNat).live=false then(w,aB 3)
 else if o.kind<=4 then
  (let r:=if o.kind=1 then wW (w o.proc.toNat).rg (w o.proc.toNat).ks (jO w) o else iK (w o.proc.toNat).rg (w o.proc.toNat).ks o
   if r.2.err=0 then(eO w o.proc.toNat (Fg { w o.proc.toNat with rg:=r.1 }),r.2) else(w,r.2))
 else if o.kind<=7 then
  (let r:=lK (w o.proc.toNat).rg (w o.proc.toNat).ks o
   if r.2.err=0 then(eO w o.proc.toNat { w o.proc.toNat with ks:=r.1 },r.2) else(w,r.2))
 else if o.kind=8 then yP w (w o.proc.toNat)
 else if o.kind=9 then(eO w o.proc.toNat sV,aB 0)
 else(eO w o.proc.toNat (o8 (w o.proc.toNat) o).1,(o8 (w o.proc.toNat) o).2)
def dI:List aL->Fw×List bX
 |l=>l.foldl (λs o=>((mW s.1 o).1,s.2++ [(mW s.1 o).2])) (aB8,[])
theorem p9 (l:List aL) (o:aL):dI (l++ [o])=((mW (dI l).1 o).1,(dI l).2++ [(mW (dI l).1 o).2]):=by
 unfold dI;simp[List.foldl_append]
theorem aKX (l:List aL):∀(w:Fw) (a:List bX),(l.foldl (λs o=>((mW s.1 o).1,s.2++ [(mW s.1 o).2])) (w,a)).2.length=a.length+l.length:=by
 induction l with
 |nil=>intro w a;simp
 |cons o l ih=>
  intro w a;rw[List.foldl_cons,ih];simp;omega
theorem aBv {l m:List aC} (hl:Good l) (hm:Good m) (h:∀p,(∃t,Has l p t)↔∃t,Has m p t):tot l=tot m:=by
 rw[rM hl,rM hm];congr 1;refine List.countP_congr λp _=> ?_;rw[xS,xS];exact h p
theorem aJv {xs:List aC} {a b:Int} (hr:bF xs=true) (h0:0<=a) (h1:a<b) (h2:b<=64):nV xs a b=0:=by
 unfold nV;rw[hr,uN.2 ⟨h0,h1,h2⟩];rfl
theorem aJI {xs:List aC} {x:aC} (h:rJ xs x=0):nV (sS xs x) x.f x.t=0/\sP (sS xs x) x.f x.t=xs/\bF (sS xs x)=true/\tot (sS xs x)=tot xs+x.t -x.f:=by
 obtain⟨hr,h0,h1,h2,hi⟩:=aA0 h;obtain⟨ha,hh⟩:=Zp h;have hE:=aJv ha h0 h1 h2;obtain⟨hc,Sn⟩:=Rs hE;refine⟨hE,right_eq hc hr λp t=> ?_,ha,?_⟩
 ·rw[Sn,hh]
  constructor
  ·rintro⟨h3|h3,h4⟩
   ·exact h3
   ·exact absurd ⟨h3.1,h3.2.1⟩ h4
  ·exact λh3=>⟨.inl h3,Ze hi p t h3⟩
 ·have hg1:Good (xs++ [x]):=Ij (fE hr) ⟨λy hy=>by
   simp at hy;subst hy;exact⟨h0,h1,h2⟩,by simp⟩ λy hy z hz=>by
   simp at hz;subst hz;have hyo:=(fE hr).ok y hy;have q1:=Ze hi (max y.f z.f) y.a;have q2:¬(y.f<z.t/\z.f<y.t):=λ⟨a1,a2⟩=>q1 ⟨y,hy,by omega,by omega,rfl⟩ (by omega);unfold vD;omega
  have:=aBv (fE ha) hg1 λp=>by
   constructor
   ·rintro⟨t,ht⟩
    exact⟨t,by rw[Dv,Zi];exact(hh p t).1 ht⟩
   ·rintro⟨t,ht⟩
    rw[Dv,Zi] at ht;exact⟨t,(hh p t).2 ht⟩
  rw[this,J6];simp[tot];omega
theorem aGw {xs:List aC} {a b:Int} {f:eY->eY} (h:dP xs a b=0) (p:Int):(∃t,Has (dY xs a b f) p t)↔∃t,Has xs p t:=by
 obtain⟨_,hh⟩:=zS (f:=f) h;constructor
 ·rintro⟨t,ht⟩
  rcases(hh p t).1 ht with h1|⟨_,_,s,hs,_⟩
  ·exact⟨t,h1.1⟩
  ·exact⟨s,hs⟩
 ·rintro⟨t,ht⟩
  by_cases hp:a<=p/\p<b
  ·exact⟨f t,(hh p _).2 (.inr ⟨hp.1,hp.2,t,ht,rfl⟩)⟩
  ·exact⟨t,(hh p t).2 (.inl ⟨ht,hp⟩)⟩
structure OkP (p:Fp):Prop where
 r:bF p.rg=true
 b:∀n i,0<=p.bt n i/\p.bt n i<=255
 t:∀n i,0<=p.tg n i/\p.tg n i<=15
 dead:p.live=false->p.rg=[]
 reg:∀q t,Has p.rg q t->fH t.r=0/\p.ks.tk t.k=true
 clean:∀n:Nat,dF p.rg n=none->(∀i,i<64->p.bt n i=0)/\∀i,i<4->p.tg n i=0
structure OkW (W:Fw):Prop where
 p:∀k,OkP (W k)
 sum:jO W<=64
theorem Wn (W:Fw) {k:Nat} (hk:k<4) (p:Fp):jO (eO W k p)=jO W+tot p.rg -tot (W k).rg:=by
 unfold jO;have:k=0\/k=1\/k=2\/k=3:=by omega
 rcases this with rfl|rfl|rfl|rfl<;>simp[eO]<;>omega
theorem OkW.upd {W:Fw} (h:OkW W) {k:Nat} (hk:k<4) {p:Fp} (hp:OkP p) (hs:jO W+tot p.rg -tot (W k).rg<=64):OkW (eO W k p):=
 ⟨λi=>by
   by_cases e:i=k
   ·subst e;rw[dN];exact hp
   ·rw[gL _ _ e];exact h.p i,by rw[Wn W hk];exact hs⟩
theorem aBV {xs:List aC} (h:bF xs=true) {p:Int} {t:eY} (hp:Has xs p t):0<=p/\p<64:=by
 obtain⟨y,hy,q1,q2,_⟩:=hp;have:=(fE h).ok y hy;omega
theorem rZ {l:List aC} (h:bF l=true):0<=tot l:=by
 rw[rM (fE h)];exact Int.natCast_nonneg _
theorem aEg:OkP sV:=⟨rfl,λ_ _=>by simp[sV],λ_ _=>by simp[sV],λ_=>rfl,λq t h=>absurd h Ah,λ_ _=>⟨λ_ _=>rfl,λ_ _=>rfl⟩⟩
theorem aMF:OkW aB8:=by
 refine⟨λk=> ?_,by decide⟩;unfold aB8;by_cases e:k=0
 ·subst e
  rw[dN];exact⟨rfl,λ_ _=>by simp,λ_ _=>by simp,(λh=>by cases h),λq t h=>absurd h Ah,λ_ _=>⟨λ_ _=>rfl,λ_ _=>rfl⟩⟩
 ·rw[gL _ _ e];exact aEg
theorem aGx {K:aJ} {k:Int} (h:K.tk k=true):0<=k/\k<4:=by
 unfold aJ.tk at h;by_cases h0:k=0
 ·omega
 ·rw[if_neg h0] at h
  by_cases h1:k=1
  ·omega
  ·rw[if_neg h1] at h
   by_cases h2:k=2
   ·omega
   ·rw[if_neg h2] at h
    by_cases h3:k=3
    ·omega
    ·rw[if_neg h3] at h;cases h
theorem aBw (K:aJ) (k:Int) (t:Bool) (d j:Int) (hk:0<=k/\k<4):(K.set k t d).tk j=if j=k then t else K.tk j:=by
 have:k=0\/k=1\/k=2\/k=3:=by omega
 unfold aJ.set aJ.tk;rcases this with rfl|rfl|rfl|rfl<;>simp<;>by_cases h0:j=0<;>by_cases h1:j=1<;>by_cases h2:j=2<;>by_cases h3:j=3<;>simp[h0,h1,h2,h3]<;>omega
theorem Kn {p:Fp} (r:bF p.rg=true) (b:∀n i,0<=p.bt n i/\p.bt n i<=255) (t:∀n i,0<=p.tg n i/\p.tg n i<=15) (dead:p.live=false->p.rg=[])
 (reg:∀q t,Has p.rg q t->fH t.r=0/\p.ks.tk t.k=true):OkP (Fg p):=by
 refine⟨r,λn i=> ?_,λn i=> ?_,dead,reg,λn hn=> ?_⟩
 ·unfold Fg
  simp only;split
  ·omega
  ·exact b n i
 ·unfold Fg
  simp only;split
  ·omega
  ·exact t n i
 ·have hn':(dF p.rg n).isNone=true:=by
   have:dF p.rg n=none:=hn;rw[this];rfl
  exact⟨λi _=>if_pos hn',λi _=>if_pos hn'⟩
theorem aAS {K:aJ} {k least d:Int} (h:iT K k least d=0):least<=k/\K.tk k=true/\0<=d/\d<=3:=by
 unfold iT at h;split at h
 ·rename_i h1
  split at h
  ·simp at h
  ·exact⟨h1.1,h1.2,by omega,by omega⟩
 ·simp at h
theorem aG6 {K:aJ} (h:Dt K=0):Ox K=K.set K.free true 0/\0<=K.free/\K.free<4:=by
 unfold Dt at h;split at h
 ·simp at h
 ·rename_i h1
  refine⟨if_neg h1,?_⟩;obtain⟨t0,d0,t1,d1,t2,d2,t3,d3⟩:=K;unfold aJ.free at h1⊢
  revert h1
  cases t0<;>cases t1<;>cases t2<;>cases t3<;>simp
theorem aLE {l:List aC} {K:aJ} {o:aL} (hr:bF l=true) (h:(lK l K o).2.err=0) {q:Int} {t:eY} (hq:Has l q t) (ht:K.tk t.k=true):(lK l K o).1.tk t.k=true:=by
 unfold lK at h⊢;by_cases h1:o.kind=5
 ·rw[if_pos h1] at h⊢
  have hE:Dt K=0:=h;obtain⟨e,f0,f1⟩:=aG6 hE;show(Ox K).tk t.k=true;rw[e,aBw _ _ _ _ _ ⟨f0,f1⟩];split
  ·rfl
  ·exact ht
 rw[if_neg h1] at h⊢;by_cases h2:o.kind=6
 ·rw[if_pos h2] at h⊢
  by_cases h3:iT K o.key 1 0=0/\((fA 0 64 l).any λx=>decide (x.a.k=o.key))=true
  ·exfalso
   have h':(aB (if iT K o.key 1 0=0/\((fA 0 64 l).any λx=>decide (x.a.k=o.key))=true then 7 else iT K o.key 1 0)).err=0:=h;rw[if_pos h3] at h';simp[aB] at h'
  ·have hE:iT K o.key 1 0=0:=by
    have h':(aB (if iT K o.key 1 0=0/\((fA 0 64 l).any λx=>decide (x.a.k=o.key))=true then 7 else iT K o.key 1 0)).err=0:=h;rw[if_neg h3] at h';exact h'
   obtain⟨_,hk,_,_⟩:=aAS hE;show(rD K o.key 1 false 0).tk t.k=true;unfold rD;rw[if_pos hE,aBw _ _ _ _ _ (aGx hk)];split
   ·rename_i e
    exfalso;refine h3 ⟨hE,?_⟩;obtain⟨q0,q1⟩:=aBV hr hq;obtain⟨x,hx,_,_,e2⟩:=Ex.2 ⟨hq,q0,q1⟩;rw[List.any_eq_true];exact⟨x,hx,by rw[e2,e];simp⟩
   ·exact ht
 ·rw[if_neg h2] at h⊢
  have hE:iT K o.key 0 o.eZ=0:=h;obtain⟨_,hk,_,_⟩:=aAS hE;show(rD K o.key 0 true o.eZ).tk t.k=true;unfold rD;rw[if_pos hE,aBw _ _ _ _ _ (aGx hk)];split
  ·rfl
  ·exact ht
theorem aKI {l:List aC} {a b:Int} (h:nV l a b=0):tot (sP l a b)<=tot l:=by
 obtain⟨hr,_,_,_⟩:=aAN h;obtain⟨hc,hh⟩:=Rs h;rw[rM (fE hr),rM (fE hc)];refine Int.ofNat_le.2 (List.countP_mono_left λp _ hp=> ?_);rw[xS] at hp⊢;obtain⟨t,ht⟩:=hp;exact⟨t,((hh p t).1 ht).1⟩
theorem aBt {l:List aC} {a b:Int} {f:eY->eY} (h:dP l a b=0):tot (dY l a b f)=tot l:=by
 obtain⟨hr,_,_,_,_⟩:=Vz h;obtain⟨hc,hh⟩:=zS (f:=f) h;exact aBv (fE hc) (fE hr) (aGw h)
theorem aD2:∀(f:Nat) (e a:Int),0<=a->e<=4096->(e<=a\/65 -a/64<=f)->∀q,a<=q->q<e->∃t∈kP e f a,t.p=q/64/\t.f<=q%64/\q%64<t.t
 |0,e,a,h0,h1,h2,q,h3,h4=>by omega
 |f+1,e,a,h0,h1,h2,q,h3,h4=>by
  have hl:a<e:=by omega
  unfold kP;rw[if_pos hl];by_cases h:q<min e ((a/64+1)*64)
  ·exact⟨_,List.mem_cons_self,by show a/64=q/64;omega,by show a -a/64*64<=q%64;omega,by show q%64<min e ((a/64+1)*64) -a/64*64;omega⟩
  ·obtain⟨t,ht,h5⟩:=aD2 f e (min e ((a/64+1)*64)) (by omega) h1 (by omega) q (by omega) h4
   exact⟨t,List.mem_cons_of_mem _ ht,h5⟩
theorem V4 {p:Fp} {o:aL} :∀ {l:List mP},(nD p o l).1=0->∀t∈l,(pX p o t).1=0
 | [],_,t,ht=>by cases ht
 |x::l,h,t,ht=>by
  unfold nD at h;by_cases h1:(pX p o x).1≠0
  ·rw[if_pos h1] at h;exact absurd h h1
  ·rw[if_neg h1] at h
   rcases List.mem_cons.1 ht with rfl|ht
   ·simpa using h1
   ·exact V4 h t ht
theorem aGC {p:Fp} {o:aL} {t:mP} (h:(pX p o t).1=0):kJ p.rg p.ks t.p (iU o.kind)=0:=by
 unfold pX at h;split at h
 ·rename_i h1;exact absurd h h1
 ·rename_i h1;simpa using h1
theorem Xj {l:List aC} {K:aJ} {pg way:Int} (h:kJ l K pg way=0):∃a,dF l pg=some a/\oZ a.r a.k K way=0:=by
 unfold kJ at h;split at h
 ·cases h
 ·rename_i a e;exact⟨a,e,h⟩
theorem Kw {p:Fp} {o:aL} (hr:gM o=true) (h:(nD p o (dD o.addr (aU o))).1=0) {q:Int} (h0:o.addr<=q) (h1:q<o.addr+aU o):∃a,dF p.rg (q/64)=some a/\oZ a.r a.k p.ks (iU o.kind)=0:=by
 obtain⟨_,_,ha,_,hs,_,_⟩:=Ba hr;obtain⟨t,ht,e,_,_⟩:=aD2 65 (o.addr+aU o) o.addr ha hs (.inr (by omega)) q h0 h1;have:=Xj (aGC (V4 h t ht));rw[e] at this;exact this
theorem aDB (b:Nat->Nat->Int) (hb:∀n i,0<=b n i/\b n i<=255) (a s v:Int) (n i:Nat):0<=sZ b a s v n i/\sZ b a s v n i<=255:=by
 unfold sZ;split
 ·have h1:=Int.emod_nonneg (v/256^(((n*64+i:Nat):Int) -a).toNat) (b:=256) (by decide)
  have h2:=Int.emod_lt_of_pos (v/256^(((n*64+i:Nat):Int) -a).toNat) (b:=256) (by decide);omega
 ·exact hb n i
theorem aHb (p:Fp) (o:aL):(o8 p o).1.rg=p.rg/\(o8 p o).1.ks=p.ks/\(o8 p o).1.live=p.live:=by
 unfold o8;split
 ·exact⟨rfl,rfl,rfl⟩
 ·split
  ·exact⟨rfl,rfl,rfl⟩
  ·split
   ·exact⟨rfl,rfl,rfl⟩
   ·split<;>exact⟨rfl,rfl,rfl⟩
theorem aLb {p:Fp} (h:OkP p) (o:aL):OkP (o8 p o).1:=by
 unfold o8;by_cases h1:gM o=false
 ·rw[if_pos h1];exact h
 rw[if_neg h1];have hr:gM o=true:=by simpa using h1
 by_cases h2:(nD p o (dD o.addr (aU o))).1≠0
 ·rw[if_pos h2];exact h
 rw[if_neg h2];have h2':(nD p o (dD o.addr (aU o))).1=0:=by simpa using h2
 obtain⟨t0,t1,a0,s0,s1,ht,hs⟩:=Ba hr;by_cases h3:o.kind=13
 ·rw[if_pos h3]
  refine⟨h.r,h.b,λn i=> ?_,h.dead,h.reg,λn hn=>⟨(h.clean n hn).1,λi hi=> ?_⟩⟩
  ·show 0<=Cj p.tg o.addr (aU o) o.tag n i/\Cj p.tg o.addr (aU o) o.tag n i<=15
   unfold Cj;split
   ·omega
   ·exact h.t n i
  ·show Cj p.tg o.addr (aU o) o.tag n i=0
   unfold Cj;split
   ·rename_i hh
    obtain⟨a,e,_⟩:=Kw hr h2' hh.1 hh.2;rw[show((n*64+i*16:Nat):Int)/64=(n:Int) by omega,hn] at e;cases e
   ·exact(h.clean n hn).2 i hi
 rw[if_neg h3];by_cases h4:o.kind=11
 ·rw[if_pos h4]
  refine⟨h.r,λn i=>aDB _ h.b _ _ _ n i,h.t,h.dead,h.reg,λn hn=>⟨λi hi=> ?_,(h.clean n hn).2⟩⟩;show sZ p.bt o.addr o.size o.value n i=0;unfold sZ;split
  ·rename_i hh
   obtain⟨a,e,_⟩:=Kw hr h2' hh.1 (by rw[(hs h3).1];exact hh.2);rw[show((n*64+i:Nat):Int)/64=(n:Int) by omega,hn] at e;cases e
  ·exact(h.clean n hn).1 i hi
 rw[if_neg h4];exact h
theorem aLc {W:Fw} (h:OkW W) {k:Nat} (hk:k<4):OkW (yP W (W k)).1:=by
 unfold yP;split
 ·exact h
 ·rename_i h1
  have hc:yU W<4:=by
   have:yU W<=4:=by unfold yU;split<;>(try split)<;>(try split)<;>(try split)<;>omega
   omega
  refine h.upd hc (h.p k) ?_;have:=rZ (h.p (yU W)).r;omega
theorem aNZ {W:Fw} (h:OkW W) (o:aL):OkW (mW W o).1:=by
 unfold mW;by_cases h1:o.kind<1\/14<o.kind
 ·rw[if_pos h1];exact h
 rw[if_neg h1];by_cases h2:o.kind=14
 ·rw[if_pos h2];exact h
 rw[if_neg h2];by_cases h3:o.proc<0\/4<=o.proc\/(W o.proc.toNat).live=false
 ·rw[if_pos h3];exact h
 rw[if_neg h3];have hk:o.proc.toNat<4:=by omega
 have hl:(W o.proc.toNat).live=true:=by
  cases hl:(W o.proc.toNat).live with
  |true=>rfl
  |false=>exact absurd (.inr (.inr hl)) h3
 have hp:=h.p o.proc.toNat;generalize o.proc.toNat=k at*;by_cases h4:o.kind<=4
 ·rw[if_pos h4]
  by_cases h5:o.kind=1
  ·simp only[if_pos h5]
   by_cases h6:(wW (W k).rg (W k).ks (jO W) o).2.err=0
   ·rw[if_pos h6]
    obtain⟨e1,e2,e3,e4,e5,_⟩:=map_ok h6;obtain⟨hr,hh⟩:=Zp e2;obtain⟨_,_,_,ht⟩:=aJI e2;rw[e1];simp only at ht;refine h.upd hk (Kn hr hp.b hp.t (λh=>by rw[hl] at h;cases h) λq t hq=> ?_) ?_
    ·rcases(hh q t).1 hq with hq|⟨_,_,rfl⟩
     ·exact hp.reg q t hq
     ·exact⟨e3,e4⟩
    ·show jO W+tot (sS _ _) -tot (W k).rg<=64
     omega
   ·rw[if_neg h6];exact h
  ·simp only[if_neg h5]
   by_cases h6:(iK (W k).rg (W k).ks o).2.err=0
   ·rw[if_pos h6]
    have hs:=h.sum;rcases(aBK (by omega) h6).2 with⟨_,e1,e2,_⟩|⟨_,e3,e4,e1,e2,_⟩|⟨_,e1,e2⟩
    ·obtain⟨hr,hh⟩:=Rs e1
     have ht:=aKI e1;rw[e2];refine h.upd hk (Kn hr hp.b hp.t (λh=>by rw[hl] at h;cases h) λq t hq=>hp.reg q t ((hh q t).1 hq).1) ?_;show jO W+tot (sP _ _ _) -tot (W k).rg<=64;omega
    ·obtain⟨hr,hh⟩:=zS (f:=q9 o.eZ o.key) e1
     have ht:=aBt (f:=q9 o.eZ o.key) e1;rw[e2];refine h.upd hk (Kn hr hp.b hp.t (λh=>by rw[hl] at h;cases h) λq t hq=> ?_) ?_
     ·rcases(hh q t).1 hq with hq|⟨_,_,s,hs,rfl⟩
      ·exact hp.reg q t hq.1
      ·exact⟨e3,e4⟩
     ·show jO W+tot (dY _ _ _ _) -tot (W k).rg<=64
      omega
    ·obtain⟨hr,hh⟩:=zS (f:=vI) e1
     have ht:=aBt (f:=vI) e1;rw[e2];refine h.upd hk (Kn hr hp.b hp.t (λh=>by rw[hl] at h;cases h) λq t hq=> ?_) ?_
     ·rcases(hh q t).1 hq with hq|⟨_,_,s,hs,rfl⟩
      ·exact hp.reg q t hq.1
      ·exact hp.reg q s hs
     ·show jO W+tot (dY _ _ _ _) -tot (W k).rg<=64
      omega
   ·rw[if_neg h6];exact h
 rw[if_neg h4];by_cases h5:o.kind<=7
 ·rw[if_pos h5]
  simp only;by_cases h6:(lK (W k).rg (W k).ks o).2.err=0
  ·rw[if_pos h6]
   refine h.upd hk ⟨hp.r,hp.b,hp.t,hp.dead,λq t hq=>⟨(hp.reg q t hq).1,aLE hp.r h6 hq (hp.reg q t hq).2⟩,hp.clean⟩ ?_;have:=h.sum;show jO W+tot (W k).rg -tot (W k).rg<=64;omega
  ·rw[if_neg h6];exact h
 rw[if_neg h5];by_cases h6:o.kind=8
 ·rw[if_pos h6];exact aLc h hk
 rw[if_neg h6];by_cases h7:o.kind=9
 ·rw[if_pos h7]
  refine h.upd hk aEg ?_;have:=h.sum;have:=rZ hp.r;show jO W+0 -tot (W k).rg<=64;omega
 rw[if_neg h7];refine h.upd hk (aLb hp o) ?_;rw[(aHb (W k) o).1];have:=h.sum;omega
theorem aEh:∀(l:List aL) (W:Fw) (a:List bX),OkW W->OkW (l.foldl (λs o=>((mW s.1 o).1,s.2++ [(mW s.1 o).2])) (W,a)).1
 | [],_,_,h=>h
 |o::l,W,a,h=>by rw[List.foldl_cons];exact aEh l _ _ (aNZ h o)
theorem aB4 (l:List aL):OkW (dI l).1:=aEh l _ _ aMF
end Go.Proofs.YtoogfmbojlpjaaaGreat
namespace Go.Proofs.YtoogfmbojlpjaaaGreat
open Go.ChangeShapes Go.WideShapes Go.ChangeAt Go.RowKit Go.Joins
theorem aJn (w:World) (a:Option Addr) (n c n' c':Nat):(binOp .eql 22 (.slice a n c) (.slice none n' c')).run Tryz.prog w=.ok (.bool a.isNone) w:=Lib.run_eql_slice_nil w _ _ a n c n' c' Tryz.underlying22
theorem aEI (A:Option Addr) (n c:Nat) (xs:List aL) (w:World) (B:Nat) (hz:Rw fO 12 w B A n xs) (_:B<=w.heap.size) (hbig:n<=1466015503701):
 Calls Tryz.prog 11 #[.slice A n c] w λe w'=>∃v,e=.returned v/\Os fO 12 26 w' w.heap.size v xs/\Below w.heap.size w w':=by
 have q:=aJn;have hln:=hz.1;subst hln;cases A with
 |none=>
  have h0:xs=[]:=by
   rcases Nat.eq_zero_or_pos xs.length with h|h
   ·exact List.eq_nil_of_length_eq_zero h
   ·obtain⟨_,_,e,_⟩:=hz.2.2 h;cases e
  subst h0;clear hz;go_enter Tryz.func11,Tryz.ntmps11;go_wp2;go_ret;exact⟨_,rfl,Os.nil,Below.refl _ _⟩
 |some x=>
  obtain⟨i0,hi,hz0,hz1,hz2⟩:=info_parts Pf;obtain⟨hl,hcell⟩:=Rw.cells uZ (by decide) hz;have HC:=hZ hcell;have HL:=hZ hl;clear hcell hl hz;go_enter Tryz.func11,Tryz.ntmps11;go_wp2_with(at_builtin;refine wpList_append_own _ rfl _ _ 22 rfl w.heap.size 26 i0 (.agg #[.int .i64 0,.int .i64 0,.int .i64 0,.int .i64 0,.int .i64 0,.int .i64 0,.bool false,.int .i64 0,.int .i64 0,.int .i64 0,.int .i64 0,.int .i64 0]) 12 96 Tryz.underlying22 hi hz0 hz1 hz2 rfl (by decide) _ _ _ rfl (World.ownsRow_made w #[] 0 (nR _) (Nat.zero_le _) rfl) x xs.length c (xs.flatMap fO) rfl ?qc1 ?qc2 ?qc3 ?qc4 ?qc5 ?qc6 ?_)
  case qc1=>exact HL.out
  case qc2=>
   intro j u hj;exact Lib.cell?_alloc_some _ (HC.out j u hj)
  case qc3=>exact aNr xs
  case qc4=>unfold maxLen;omega
  case qc5=>omega
  case qc6=>simp
  intro v' w1 hown hgrow hnil;go_wp2;go_ret;exact⟨v',rfl,by simpa[Os] using hown,((Below.refl _ w).alloc (nR _) _).grown hgrow (by simp) (by intro k hk;simp[Value.ownBlock] at hk;omega)⟩
end Go.Proofs.YtoogfmbojlpjaaaGreat
