/- Lemmas. -/
import Derived.Shelf.Abstract
import Derived.Test.YtoogfmbojlpjaaaGreatQ9
import Derived.Test.YtoogfmbojlpjaaaGreatQ11
import Derived.Test.YtoogfmbojlpjaaaGreatQ8
import Derived.Test.YtoogfmbojlpjaaaGreatQ10
import Derived.Test.YtoogfmbojlpjaaaGreatQ6
import Derived.OwnWalk
import Derived.Test.YtoogfmbojlpjaaaGreatQ0
import Derived.Test.YtoogfmbojlpjaaaGreatQ1
import Derived.Laws.BitsAllLaws
import Derived.Test.YtoogfmbojlpjaaaGreatQ5
import Derived.Test.YtoogfmbojlpjaaaGreatQA
set_option maxRecDepth 100000
set_option maxHeartbeats 32000000
set_option linter.unusedVariables false
set_option linter.unusedSimpArgs false
namespace Go.Proofs.YtoogfmbojlpjaaaGreat
open Go.ChangeShapes Go.WideShapes Go.ChangeAt Go.RowKit Go.Joins
theorem aJp (w:World) (a:Option Addr) (n c n' c':Nat):(binOp .eql 54 (.slice a n c) (.slice none n' c')).run Tryz.prog w=.ok (.bool a.isNone) w:=Lib.run_eql_slice_nil w _ _ a n c n' c' Tryz.underlying54
theorem aEK (A:Option Addr) (n c:Nat) (xs:List aH) (w:World) (B:Nat) (hz:Rw lQ 2 w B A n xs) (_:B<=w.heap.size) (hbig:n<=8796093022208):
 Calls Tryz.prog 170 #[.slice A n c] w λe w'=>∃v,e=.returned v/\Os lQ 2 184 w' w.heap.size v xs/\Below w.heap.size w w':=by
 have q:=aJp;have hln:=hz.1;subst hln;cases A with
 |none=>
  have h0:xs=[]:=by
   rcases Nat.eq_zero_or_pos xs.length with h|h
   ·exact List.eq_nil_of_length_eq_zero h
   ·obtain⟨_,_,e,_⟩:=hz.2.2 h;cases e
  subst h0;clear hz;go_enter Tryz.func170,Tryz.ntmps170;go_wp2;go_ret;exact⟨_,rfl,Os.nil,Below.refl _ _⟩
 |some x=>
  obtain⟨i0,hi,hz0,hz1,hz2⟩:=info_parts Pg;obtain⟨hl,hcell⟩:=Rw.cells jD (by decide) hz;have HC:=hZ hcell;have HL:=hZ hl;clear hcell hl hz;go_enter Tryz.func170,Tryz.ntmps170;go_wp2_with(at_builtin;refine wpList_append_own _ rfl _ _ 54 rfl w.heap.size 184 i0 (.agg #[.int .i64 0,.int .i64 0]) 2 16 Tryz.underlying54 hi hz0 hz1 hz2 rfl (by decide) _ _ _ rfl (World.ownsRow_made w #[] 0 (nR _) (Nat.zero_le _) rfl) x xs.length c (xs.flatMap lQ) rfl ?qc1 ?qc2 ?qc3 ?qc4 ?qc5 ?qc6 ?_)
  case qc1=>exact HL.out
  case qc2=>
   intro j u hj;exact Lib.cell?_alloc_some _ (HC.out j u hj)
  case qc3=>exact aNs xs
  case qc4=>unfold maxLen;omega
  case qc5=>omega
  case qc6=>simp
  intro v' w1 hown hgrow hnil;go_wp2;go_ret;exact⟨v',rfl,by simpa[Os] using hown,((Below.refl _ w).alloc (nR _) _).grown hgrow (by simp) (by intro k hk;simp[Value.ownBlock] at hk;omega)⟩
def idxOf {α:Type} (p:α->Bool) (xs:List α):Int:=if xs.findIdx p<xs.length then(xs.findIdx p:Int) else -1
theorem aLA (y:aH) (A:Option Addr) (n c:Nat) (xs:List aH) (w:World) (B:Nat) (hz:Rw lQ 2 w B A n xs) (hB:B<=w.heap.size) (hbig:n<=140737488355328):
 Calls Tryz.prog 177 #[.slice A n c,.agg #[.int .i64 y.a,.int .i64 y.o]] w λe w'=>e=.returned (.int .i64 (idxOf (λx=>nY y x) xs))/\Below w.heap.size w w':=by
 have hln:=hz.1;have H1:=hZ (λ(i:Nat) (x:aH) (h:xs[i]? =some x) (hi:i<xs.findIdx (λx=>nY y x))=>(by
  have hl:=(List.getElem?_eq_some_iff.1 h).1;have:=List.not_of_lt_findIdx hi;rw[(List.getElem?_eq_some_iff.1 h).2] at this;simpa using this:nY y x=false))
 have H2:=hZ (λ(x:aH) (h:xs[xs.findIdx (λx=>nY y x)]? =some x)=>(by
  have hl:=(List.getElem?_eq_some_iff.1 h).1;have:=List.findIdx_getElem (w:=hl);rw[(List.getElem?_eq_some_iff.1 h).2] at this;exact this:nY y x=true))
 have hfl:xs.findIdx (λx=>nY y x)<=n:=by rw[<-hln];exact List.findIdx_le_length
 have HI:Hid (idxOf (λx=>nY y x) xs=if xs.findIdx (λx=>nY y x)<n then(xs.findIdx (λx=>nY y x):Int) else -1):=hZ (by unfold idxOf;rw[hln]);have HX:=hZ (λ(i:Nat) (hi:i<n)=>(⟨xs[i]'(by omega),List.getElem?_eq_getElem _⟩:∃x,xs[i]? =some x));generalize xs.findIdx (λx=>nY y x)=m at*;generalize idxOf (λx=>nY y x) xs=res at*;have HZ:=hZ hz;have HA:Hid (0<n->∃b off,A=some ⟨b,off,none⟩/\b<B):=hZ (λh=>HZ.out.open h);clear hz hln;go_enter Tryz.func177,Tryz.ntmps177;go_wp2;go_loopw [5,8] (λ_ i wr=>∃j:Nat,j<=m/\i=.int .i64 j/\Hid (Below (w.alloc (.cells #[.int .i64 y.a,.int .i64 y.o] 184)).heap.size (w.alloc (.cells #[.int .i64 y.a,.int .i64 y.o] 184)) wr)) (λ_ i _=>n - (intOf i).toNat)
 case atStart=>exact⟨0,by omega,rfl,hZ (Below.refl _ _)⟩
 case round=>
  obtain⟨j,hj,rfl,HB⟩:=hrel;have hsz:=HB.out.size;simp at hsz;have vT:=hZ ((((Below.refl w.heap.size w).alloc (nR _) (.cells #[.int .i64 y.a,.int .i64 y.o] 184))).trans (HB.out.mono (by simp)));obtain⟨hbc,_⟩:=wO HB.out;have e0:wr.cell? ⟨w.heap.size,0,none⟩=some (.int .i64 y.a):=by rw[hbc _ _ (by simp)];simp[go_sem]
  have e1:wr.cell? ⟨w.heap.size,1,none⟩=some (.int .i64 y.o):=by rw[hbc _ _ (by simp)];simp[go_sem]
  clear hbc;by_cases hlt:j<n
  ·obtain⟨x,hx⟩:=HX.out j hlt
   obtain⟨b,off,q8,hb⟩:=HA.out (by omega);subst q8;have hc:=(HZ.out.below (vT.out.mono hB)).at_ jD hx;have c0:wr.cell? ⟨b,off+j*2,none⟩=some (.int .i64 x.a):=hc 0 _ rfl;have c1:wr.cell? ⟨b,off+j*2+1,none⟩=some (.int .i64 x.o):=hc 1 _ rfl;have heq:∀w,(Op.equalIn 10000 184 (.agg #[.int .i64 y.a,.int .i64 y.o]) (.agg #[.int .i64 x.a,.int .i64 x.o])).run Tryz.prog w=.ok (nY y x) w:=aBS 9998 y x;by_cases hm:j<m
   ·rw[H1.out j x hx hm] at heq
    clear hx hc;go_wp2
    go_quiet (fail)
    go_wp2;go_roundw
    case rel=>exact⟨j+1,by omega,by go_num,hZ (HB.out.trans (below_drewN _ _ _))⟩
    case measure=>simp[intOf];omega
   ·have wD:j=m:=by omega
    subst wD;rw[H2.out x hx] at heq;clear hx hc;go_wp2
    go_quiet (fail)
    go_wp2;go_ret;exact⟨iR (by rw[HI.out,if_pos hlt]),vT.out.trans (below_drewN _ _ _)⟩
  ·have wD:j=m:=by omega
   subst wD;go_wp2;go_ret;exact⟨iR (by rw[HI.out,if_neg hlt]),vT.out⟩
theorem aC4 (v:Value) (xs:List aH) (i:Nat) (hi:i<xs.length) (w:World) (base:Nat) (ho:Os lQ 2 184 w base v xs) (hbase:base<=w.heap.size) (hbig:xs.length<=1000000):
 Calls Tryz.prog 169 #[v,.int .i64 i,.int .i64 (i+1)] w (Gives lQ 2 184 base w (xs.eraseIdx i)):=by
 rcases ho with⟨h1,⟨rfl,h0⟩|⟨gb,cap,cur,rfl,hg,hh,hn,hm,hz,hx⟩⟩
 ·omega
 have ho:Os lQ 2 184 w base (.slice (some ⟨gb,0,none⟩) xs.length cap) xs:=⟨h1,.inr ⟨gb,cap,cur,rfl,hg,hh,hn,hm,hz,hx⟩⟩;have hgl:=kM hh;obtain⟨i0,Uw,hz0,hz1,hz2⟩:=info_parts Pg;have hne:((i:Int)==(i:Int)+1)=false:=by rw[beq_eq_false_iff_ne];omega
 obtain⟨w1,hr,ho1,hb1,hs1⟩:=(ho.below (jY w.heap.size w) (nR _)).aFQ (P:=Tryz.prog) (t:=54) (ty:=54) jD (by decide) (λx=>D9 x) Tryz.underlying54 Uw hz1 hi (cap - (i+1));obtain⟨w2,hcl,hsz2,hb2,ho2⟩:=ho1.aDa (n:=xs.length) jD (by decide) Tryz.underlying54 Tryz.zeroValue184 (by decide) (by decide) (by omega) (by omega) (cap - (xs.length -1));have HO:=hZ ho2;have HB:=hZ (hb2 base w hg (hb1 base w hg (jY base w)));clear hh hz hx ho h1 ho1 hb1 hb2 ho2 hsz2 hs1;have hl1:(1:Nat)<=xs.length:=by omega
 have a1:i<=cap:=by omega
 have a2:((i:Int)+1).toNat=i+1:=by omega
 have a3:¬((i:Int)+1<0):=by omega
 have a4:i+1<=xs.length:=by omega
 have a5:(i:Int)+1<=(xs.length:Int):=by omega
 have a6:(0:Int)<=(i:Int)+1:=by omega
 by_cases hcap:cap=i+1
 ·subst hcap
  have h0:xs.length - (i+1)=0:=by omega
  rw[if_pos rfl,Nat.sub_self,h0] at hr;have a7:(i:Int)<=(i:Int)+1:=by omega
  go_enter Tryz.func169,Tryz.ntmps169;go_wp2
  go_region_law (refine I4 rfl (.tmp 22) (.tmp 25) 54 rfl (.slice (some ⟨gb,0,none⟩) i (i+1)) (.slice (some ⟨gb,0,none⟩) 0 0) (.slice (some ⟨gb,0,none⟩) (xs.length -1) (i+1)) (by simp[Act.eval,Act.put]) (by simp[Act.eval,Act.put]) hr ?_)
  go_wp2;go_ret;exact⟨_,rfl,HO.out,HB.out⟩
 ·rw[if_neg hcap] at hr
  go_enter Tryz.func169,Tryz.ntmps169;go_wp2
  go_region_law (refine I4 rfl (.tmp 22) (.tmp 25) 54 rfl (.slice (some ⟨gb,0,none⟩) i cap) (.slice (some ⟨gb,(i+1)*2,none⟩) (xs.length - (i+1)) (cap - (i+1))) (.slice (some ⟨gb,0,none⟩) (xs.length -1) cap) (by simp[Act.eval,Act.put]) (by simp[Act.eval,Act.put]) hr ?_)
  go_wp2;go_ret;exact⟨_,rfl,HO.out,HB.out⟩
def aBg (g:Nat) (lb:Array Value) (p:aC->Bool) (base:Nat) (w:World):Prop:=
 ∀(W:World) (x:aC),Below base w W->Calls Tryz.prog g (#[.agg #[.int .i64 x.f,.int .i64 x.t,.int .i64 x.a.r,.int .i64 x.a.k,.bool x.a.g,.bool x.a.s]]++lb) W λe w'=>e=.returned (.bool (p x))/\Below W.heap.size W w'
theorem aDJ (g:Nat) (lb:Array Value) (eg:∀args w,(callFunc g args).run Tryz.prog w=.ok (.enter g args) w) (p:aC->Bool) (A:Option Addr) (n c:Nat) (xs:List aC) (w:World) (B base:Nat) (hz:Rw fR 6 w B A n xs) (hB:B<=w.heap.size) (hbase:base<=w.heap.size) (hbig:n<=140737488355328)
 (hp:aBg g lb p base w):Calls Tryz.prog 159 #[.slice A n c,.func (.func g) #[] lb] w λe w'=>e=.returned (.int .i64 (idxOf p xs))/\Below w.heap.size w w':=by
 have hln:=hz.1;have H1:=hZ (λ(i:Nat) (x:aC) (h:xs[i]? =some x) (hi:i<xs.findIdx p)=>(by
  have hl:=(List.getElem?_eq_some_iff.1 h).1;have:=List.not_of_lt_findIdx hi;rw[(List.getElem?_eq_some_iff.1 h).2] at this;simpa using this:p x=false))
 have H2:=hZ (λ(x:aC) (h:xs[xs.findIdx p]? =some x)=>(by
  have hl:=(List.getElem?_eq_some_iff.1 h).1;have:=List.findIdx_getElem (w:=hl);rw[(List.getElem?_eq_some_iff.1 h).2] at this;exact this:p x=true))
 have hfl:xs.findIdx p<=n:=by rw[<-hln];exact List.findIdx_le_length
 have HI:Hid (idxOf p xs=if xs.findIdx p<n then(xs.findIdx p:Int) else -1):=hZ (by unfold idxOf;rw[hln]);have HX:=hZ (λ(i:Nat) (hi:i<n)=>(⟨xs[i]'(by omega),List.getElem?_eq_getElem _⟩:∃x,xs[i]? =some x));generalize xs.findIdx p=m at*;have HZ:=hZ hz;have HP:=hZ hp;clear hz hp hln;rcases Nat.eq_zero_or_pos n with h0|h0
 ·subst h0
  go_enter Tryz.func159,Tryz.ntmps159;go_wp2
  go_loop [5,8] (λ_ i=>i=.int .i64 0) (λ_ i=>1 - (intOf i).toNat)
  case atStart=>exact rfl
  case round=>
   subst hrel;go_wp2;go_ret;exact⟨iR (by rw[HI.out,if_neg (by omega)]),Below.refl _ _⟩
 ·obtain⟨b,off,rfl,hb⟩:=HZ.out.open h0
  go_enter Tryz.func159,Tryz.ntmps159;go_wp2;go_loopw [5,8] (λ_ i wr=>∃k:Nat,k<=m/\i=.int .i64 k/\Hid (Below w.heap.size w wr)) (λ_ i _=>n - (intOf i).toNat)
  case atStart=>exact⟨0,by omega,rfl,hZ (Below.refl _ _)⟩
  case round=>
   obtain⟨k,hk,rfl,HB⟩:=hrel;by_cases hlt:k<n
   ·obtain⟨x,hx⟩:=HX.out k hlt
    have hc:=(HZ.out.below (HB.out.mono hB)).at_ gZ hx;have c0:wr.cell? ⟨b,off+k*6,none⟩=some (.int .i64 x.f):=hc 0 _ rfl;have c1:wr.cell? ⟨b,off+k*6+1,none⟩=some (.int .i64 x.t):=hc 1 _ rfl;have c2:wr.cell? ⟨b,off+k*6+2,none⟩=some (.int .i64 x.a.r):=hc 2 _ rfl;have c3:wr.cell? ⟨b,off+k*6+3,none⟩=some (.int .i64 x.a.k):=hc 3 _ rfl;have c4:wr.cell? ⟨b,off+k*6+4,none⟩=some (.bool x.a.g):=hc 4 _ rfl;have c5:wr.cell? ⟨b,off+k*6+5,none⟩=some (.bool x.a.s):=hc 5 _ rfl;have hcall:=HP.out wr x (HB.out.mono hbase);by_cases hm:k<m
    ·have hpx:=H1.out k x hx hm
     rw[hpx] at hcall;have Db:=hZ hx;clear hx hc hpx;go_wp2_with(go_at_fn g;refine hcall.mono ?_;rintro e w' ⟨rfl,hb'⟩)
     go_roundw
     case rel=>exact⟨k+1,by omega,by go_num,hZ (HB.out.trans (hb'.mono HB.out.size))⟩
     case measure=>simp[intOf];omega
    ·have wD:k=m:=by omega
     subst wD;have hpx:=H2.out x hx;rw[hpx] at hcall;have Db:=hZ hx;clear hx hc hpx;go_wp2_with(go_at_fn g;refine hcall.mono ?_;rintro e w' ⟨rfl,hb'⟩)
     go_ret;exact⟨iR (by rw[HI.out,if_pos hlt]),HB.out.trans (hb'.mono HB.out.size)⟩
   ·have wD:k=m:=by omega
    subst wD;go_wp2;go_ret;exact⟨iR (by rw[HI.out,if_neg hlt]),HB.out⟩
theorem aCp {α:Type} (p:α->Bool) (xs:List α):(decide (0<=idxOf p xs))=xs.any p:=by
 unfold idxOf;rw[Bool.eq_iff_iff,decide_eq_true_eq,List.any_eq_true];split
 ·rename_i h
  exact⟨λ_=>List.findIdx_lt_length.1 h,λ_=>by omega⟩
 ·rename_i h
  exact⟨λh2=>by omega,λh2=>absurd (List.findIdx_lt_length.2 h2) h⟩
theorem Jm (g:Nat) (lb:Array Value) (eg:∀args w,(callFunc g args).run Tryz.prog w=.ok (.enter g args) w) (p:aC->Bool) (A:Option Addr) (n c:Nat) (xs:List aC) (w:World) (B base:Nat) (hz:Rw fR 6 w B A n xs) (hB:B<=w.heap.size) (hbase:base<=w.heap.size) (hbig:n<=140737488355328)
 (hp:aBg g lb p base w):Calls Tryz.prog 120 #[.slice A n c,.func (.func g) #[] lb] w λe w'=>e=.returned (.bool (xs.any p))/\Below w.heap.size w w':=by
 have hcall:=aDJ g lb eg p A n c xs w B base hz hB hbase hbig hp;have HI:=hZ (aCp p xs);clear hz hp;generalize idxOf p xs=i at*;go_enter Tryz.func120,Tryz.ntmps120;go_wp2_with(go_at_call 159;refine hcall.mono ?_;rintro e w' ⟨rfl,hb'⟩)
 all_goals
  go_ret;exact⟨bH (by rw[<-HI.out]),hb'⟩
theorem Bl (A:Option Addr) (n c:Nat) (xs:List aC) (w:World) (B:Nat) (hz:Rw fR 6 w B A n xs) (hB:B<=w.heap.size) (hbig:n<=140737488355328):
 Calls Tryz.prog 140 #[.slice A n c] w λe w'=>e=.returned (.bool (bF xs))/\Below w.heap.size w w':=by
 have hln:=hz.1;have HX:=hZ (λ(i:Nat) (hi:i<n)=>(⟨xs[i]'(by omega),List.getElem?_eq_getElem _⟩:∃x,xs[i]? =some x));have jN:=hZ hln;have HZ:=hZ hz;have HBAD:=hZ (V7 xs none);have aF3:=hZ (Sb xs none);have Cf:Hid (bF xs=jG none xs):=hZ rfl;generalize jG none xs=res at*;generalize bF xs=aOm at*;have HA:Hid (0<n->∃b off,A=some ⟨b,off,none⟩/\b<B):=hZ (λh=>HZ.out.open h);clear hz hln;go_enter Tryz.func140,Tryz.ntmps140;go_wp2;go_loopw [7] (λi wr=>∃k:Nat,k<=n/\i=.int .i64 k/\Hid (Below w.heap.size w wr)/\Hid (∀j x,j<k->xs[j]? =some x->zJ x=true/\∀p,(if j=0 then none else xs[j -1]?)=some p->kF p x=true)) (λi _=>n - (intOf i).toNat)
 case atStart=>exact⟨0,by omega,rfl,hZ (Below.refl _ _),hZ (λj x hj=>absurd hj (Nat.not_lt_zero _))⟩
 case round=>
  obtain⟨k,hk,rfl,HB,HG⟩:=hrel;have hsz:=HB.out.size;by_cases hlt:k<n
  ·obtain⟨x,hx⟩:=HX.out k hlt
   obtain⟨b,off,q8,hb⟩:=HA.out (by omega);subst q8;have hcs:=(HZ.out.below (HB.out.mono hB)).at_ gZ hx;have Ec:wr.cell? ⟨b,off+k*6,none⟩=some (.int .i64 x.f):=hcs 0 _ rfl;have Eb:wr.cell? ⟨b,off+k*6+1,none⟩=some (.int .i64 x.t):=hcs 1 _ rfl;have Vo:wr.cell? ⟨b,off+k*6+2,none⟩=some (.int .i64 x.a.r):=hcs 2 _ rfl;have xc3:wr.cell? ⟨b,off+k*6+3,none⟩=some (.int .i64 x.a.k):=hcs 3 _ rfl;have xc4:wr.cell? ⟨b,off+k*6+4,none⟩=some (.bool x.a.g):=hcs 4 _ rfl;have xc5:wr.cell? ⟨b,off+k*6+5,none⟩=some (.bool x.a.s):=hcs 5 _ rfl;have HX0:=hZ hx;clear hcs hx;by_cases h1:x.f<0
   ·have lH:Hid (zJ x=false):=hZ (by unfold zJ;simp;omega)
    go_wp2;go_ret;exact⟨bH (by rw[Cf.out,HBAD.out k x HX0.out (.inl lH.out)]),HB.out.alloc hsz _⟩
   ·have h1':0<=x.f:=by omega
    by_cases h2:64<x.t
    ·have lH:Hid (zJ x=false):=hZ (by unfold zJ;simp;omega)
     go_wp2;go_ret;exact⟨bH (by rw[Cf.out,HBAD.out k x HX0.out (.inl lH.out)]),HB.out.alloc hsz _⟩
    ·have h2':x.t<=64:=by omega
     by_cases h3:x.t<=x.f
     ·have lH:Hid (zJ x=false):=hZ (by unfold zJ;simp;omega)
      go_wp2;go_ret;exact⟨bH (by rw[Cf.out,HBAD.out k x HX0.out (.inl lH.out)]),HB.out.alloc hsz _⟩
     ·have h3':x.f<x.t:=by omega
      have lH:Hid (zJ x=true):=hZ (by unfold zJ;simp;omega);cases k with
      |zero=>
       rw[Nat.zero_mul,Nat.add_zero] at Ec Eb Vo xc3 xc4 xc5;go_wp2
       go_quiet (fail)
       go_wp2;go_roundw
       case rel=>exact⟨0+1,by omega,by go_num,hZ ((HB.out.alloc hsz _).trans (below_drewN _ _ _)),hZ (λj y hj hy=>by
        by_cases e:j=0
        ·subst e
         rw[HX0.out] at hy;cases hy;exact⟨lH.out,λq hq=>by simp at hq⟩
        ·exact HG.out j y (by omega) hy)⟩
       case measure=>simp[intOf];omega
      |succ m=>
       obtain⟨p,hp⟩:=HX.out m (by omega);have hps:=(HZ.out.below (HB.out.mono hB)).at_ gZ hp;have pc0:wr.cell? ⟨b,off+m*6,none⟩=some (.int .i64 p.f):=hps 0 _ rfl;have pc1:wr.cell? ⟨b,off+m*6+1,none⟩=some (.int .i64 p.t):=hps 1 _ rfl;have pc2:wr.cell? ⟨b,off+m*6+2,none⟩=some (.int .i64 p.a.r):=hps 2 _ rfl;have pc3:wr.cell? ⟨b,off+m*6+3,none⟩=some (.int .i64 p.a.k):=hps 3 _ rfl;have pc4:wr.cell? ⟨b,off+m*6+4,none⟩=some (.bool p.a.g):=hps 4 _ rfl;have pc5:wr.cell? ⟨b,off+m*6+5,none⟩=some (.bool p.a.s):=hps 5 _ rfl;have M0:=hZ hp;have hbw:b<wr.heap.size:=by omega
       have hm0:(0:Int)<(m:Int)+1:=by omega
       have hmn:(m:Int)<(n:Int):=by omega
       have hm1:m<n:=by omega
       have hm2:(0:Int)<=(m:Int):=by omega
       have hmw:IntKind.i64.wrap (m:Int)=(m:Int):=by rw[IntKind.wrap_i64];omega
       clear hps hp;by_cases h4:x.f<p.t
       ·have oO:Hid (kF p x=false):=hZ (by unfold kF;simp[h4])
        go_wp2
        go_quiet (fail)
        go_wp2;go_ret;exact⟨bH (by rw[Cf.out,HBAD.out (m+1) x HX0.out (.inr ⟨p,by rw[if_neg (by omega),Nat.add_sub_cancel];exact M0.out,oO.out⟩)]),(HB.out.alloc hsz _).trans (below_drewN _ _ _)⟩
       ·have h4':p.t<=x.f:=by omega
        have hd4:decide (x.f<p.t)=false:=decide_eq_false (by omega);cases h5:(p.t==x.f) with
        |false=>
         have oO:Hid (kF p x=true):=hZ (by unfold kF;rw[h5];simp;omega);go_wp2
         go_quiet (fail)
         clear hmw;go_wp2;go_roundw
         case rel=>exact⟨m+1+1,by omega,by go_num,hZ ((HB.out.alloc hsz _).trans (below_drewN _ _ _)),hZ (λj y hj hy=>by
          by_cases e:j=m+1
          ·subst e
           rw[HX0.out] at hy;cases hy;exact⟨lH.out,λq hq=>by rw[if_neg (by omega),Nat.add_sub_cancel,M0.out] at hq;cases hq;exact oO.out⟩
          ·exact HG.out j y (by omega) hy)⟩
         case measure=>simp[intOf];omega
        |true=>
         have hqA:∀w,(Op.equalIn 10000 97 (.agg #[.int .i64 p.a.r,.int .i64 p.a.k,.bool p.a.g,.bool p.a.s]) (.agg #[.int .i64 x.a.r,.int .i64 x.a.k,.bool x.a.g,.bool x.a.s])).run Tryz.prog w=.ok (zM p.a x.a) w:=aD7 p.a x.a;cases h6:zM p.a x.a with
         |false=>
          rw[h6] at hqA;have oO:Hid (kF p x=true):=hZ (by unfold kF;rw[h5,h6];simp;omega);clear h6;go_wp2
          go_quiet (fail)
          clear hmw;go_wp2;go_roundw
          case rel=>exact⟨m+1+1,by omega,by go_num,hZ ((HB.out.alloc hsz _).trans (below_drewN _ _ _)),hZ (λj y hj hy=>by
           by_cases e:j=m+1
           ·subst e
            rw[HX0.out] at hy;cases hy;exact⟨lH.out,λq hq=>by rw[if_neg (by omega),Nat.add_sub_cancel,M0.out] at hq;cases hq;exact oO.out⟩
           ·exact HG.out j y (by omega) hy)⟩
          case measure=>simp[intOf];omega
         |true=>
          rw[h6] at hqA;have oO:Hid (kF p x=false):=hZ (by unfold kF;rw[h5,h6];simp);clear h6;go_wp2
          go_quiet (fail)
          go_wp2;go_ret;exact⟨bH (by rw[Cf.out,HBAD.out (m+1) x HX0.out (.inr ⟨p,by rw[if_neg (by omega),Nat.add_sub_cancel];exact M0.out,oO.out⟩)]),(HB.out.alloc hsz _).trans (below_drewN _ _ _)⟩
  ·have hkn:n=k:=by omega
   subst hkn;go_wp2;go_ret;exact⟨bH (by rw[Cf.out,aF3.out (λj x hj hx=>HG.out j x (by rw[jN.out] at hj;exact hj) hx)]),HB.out⟩
end Go.Proofs.YtoogfmbojlpjaaaGreat
namespace Go.Proofs.YtoogfmbojlpjaaaGreat
open Go.ChangeShapes Go.WideShapes Go.ChangeAt Go.RowKit Go.Joins Go.Sort
section
attribute [local go_sem] Oper.quiet Oper.quietAt Oper.quietUpon
theorem aDj {ops:Array Oper} {rest:List Oper} {o:Oper} {a:Act} {Q:Exit->Act->World->Prop} (hgd:o.guard=none) (s x:Operand) (ho:o.op=.call { callee:=.builtin .append,args:= #[s,x],argTypes:= #[37,37] })
 (base:Nat) (v:Value) (t:List aC) (W:World) (c:aC) (gx:Nat) (hs:a.eval s=v) (hx:a.eval x=.slice (some ⟨gx,0,none⟩) 1 1) (hgx:gx=W.heap.size) (hos:Os fR 6 99 W base v t) (hb:base<=W.heap.size) (hlen:t.length+1<=3518437208883)
 (hK:∀g' c' w',Os fR 6 99 w' base (.slice (some ⟨g',0,none⟩) (t.length+1) c') (t++ [c])->W.grownBy w' v.ownBlock->(some g'=v.ownBlock\/W.heap.size<=g')->base<=g'->t.length+1<=c'->c'<=maxLen->wpList Tryz.prog ops Q rest (a.put o.dst (.slice (some ⟨g',0,none⟩) (t.length+1) c')) w'):
 wpList Tryz.prog ops Q (o::rest) a (W.alloc (.cells #[.int .i64 c.f,.int .i64 c.t,.int .i64 c.a.r,.int .i64 c.a.k,.bool c.a.g,.bool c.a.s] 99)):=
 Lt Tryz.underlying37 aCo rfl (by decide) gZ Rm hgd s x ho base v t W c gx hs hx hgx hos hb (by unfold maxLen;omega) (by omega) hK
def aPc (o i:List aC) (w:World) (e:Ending) (w':World):Prop:=∃vo vi,e=.returned (.tuple #[vo,vi])/\Os fR 6 99 w' w.heap.size vo o/\Os fR 6 99 w' w.heap.size vi i/\Apart vo vi/\Below w.heap.size w w'
def yG (a b:Int) (x:aC):List aC:=[⟨x.f,min x.t a,x.a⟩,⟨max x.f b,x.t,x.a⟩]
def uB (x:aC):List aC:=if x.f<x.t then [x] else []
theorem aFb (a b:Int) (x:aC):Ib a b x=(yG a b x).flatMap uB:=by simp[Ib,yG,uB]
theorem aIU (a b:Int) (x:aC):Ww a b x=uB ⟨max x.f a,min x.t b,x.a⟩:=rfl
theorem Od {x:aC} (h:x.f<x.t):uB x=[x]:=if_pos h
theorem Uf {x:aC} (h:¬x.f<x.t):uB x=[]:=if_neg h
theorem Mk:∀l:List aC,(l.flatMap uB).length<=l.length
 | []=>by simp
 |x::l=>by
  have:=Mk l;rw[List.flatMap_cons,List.length_append,List.length_cons];by_cases h:x.f<x.t
  ·rw[Od h,List.length_singleton];omega
  ·rw[Uf h,List.length_nil];omega
theorem Kl (a b:Int) (l:List aC):(gV a b l).length<=2*l.length:=by
 induction l with
 |nil=>simp[gV]
 |cons x l ih=>simp only[gV,List.flatMap_cons,List.length_append,List.length_cons] at*;have:=aIB a b x;omega
theorem Ri (a b:Int) (l:List aC):(fA a b l).length<=l.length:=by
 induction l with
 |nil=>simp[fA]
 |cons x l ih=>simp only[fA,List.flatMap_cons,List.length_append,List.length_cons] at*;have:=aLB a b x;omega
structure Duo (w0 w:World) (vo vi:Value) (o i:List aC):Prop where
 below:Below w0.heap.size w0 w
 out:Os fR 6 99 w w0.heap.size vo o
 ins:Os fR 6 99 w w0.heap.size vi i
 apart:Apart vo vi
theorem Duo.on {w0 w w':World} {vo vi:Value} {o i:List aC} (h:Duo w0 w vo vi o i) (hb:Below w.heap.size w w'):Duo w0 w' vo vi o i:=
 ⟨h.below.trans (hb.mono h.below.size),h.out.below hb (nR _),h.ins.below hb (nR _),h.apart⟩
theorem Px {w w':World} {v:Value} {B:Nat} (h:w.grownBy w' v.ownBlock) (hv:∀k,v.ownBlock=some k->B<=k) (hB:B<=w.heap.size):Below B w w':=
 ⟨h.os,h.tape,h.output,h.size,λk hk=>h.block k (by omega) (λe=>by have:=hv k e.symm;omega)⟩
theorem Duo.aNl {w0 w w':World} {vo vi:Value} {o i o':List aC} {g n c:Nat} (h:Duo w0 w vo vi o i) (hg:w.grownBy w' vo.ownBlock) (ho:Os fR 6 99 w' w0.heap.size (.slice (some ⟨g,0,none⟩) n c) o') (hgg:some g=vo.ownBlock\/w.heap.size<=g):Duo w0 w' (.slice (some ⟨g,0,none⟩) n c) vi o' i:=
 ⟨h.below.trans (Px hg (λk hk=>(h.out.jE k hk).2) h.below.size),ho,h.ins.frame hg h.apart.symm,(h.apart.symm.grown hgg (λk hk=>(h.ins.jE k hk).1)).symm⟩
theorem Duo.aNm {w0 w w':World} {vo vi:Value} {o i i':List aC} {g n c:Nat} (h:Duo w0 w vo vi o i) (hg:w.grownBy w' vi.ownBlock) (hi:Os fR 6 99 w' w0.heap.size (.slice (some ⟨g,0,none⟩) n c) i') (hgg:some g=vi.ownBlock\/w.heap.size<=g):Duo w0 w' vo (.slice (some ⟨g,0,none⟩) n c) o i':=
 ⟨h.below.trans (Px hg (λk hk=>(h.ins.jE k hk).2) h.below.size),h.out.frame hg h.apart,hi,h.apart.grown hgg (λk hk=>(h.out.jE k hk).1)⟩
theorem aEf {α:Type} {f:α->List Value} {sz:Nat} {T:TypeId} {w:World} {base:Nat} (hf:∀x,(f x).length=sz) (xs:List α) (n:Nat) (hn:n=xs.length) (hm:xs.length<=1000) (hb:base<=w.heap.size):Os f sz T (w.alloc (.cells (xs.flatMap f).toArray T)) base (.slice (some ⟨w.heap.size,0,none⟩) n n) xs:=by
 subst hn;refine Os.mk (cur:=(xs.flatMap f).toArray) hb (by simp only[World.alloc,Array.getElem?_push_size]) (nR _) (by unfold maxLen;omega) (by simp[iV hf]) hf ?_;rw[List.toList_toArray,List.take_of_length_le (by rw[iV hf];exact nR _)]
structure Qj (w0:World) (gx:Nat) (x:aC) (p:List aC) (w:World) (vo vi:Value) (o i:List aC):Prop where
 duo:Duo w0 w vo vi o i
 cpy:Os fR 6 99 w gx (.slice (some ⟨gx,0,none⟩) 1 1) [x]
 parts:Os fR 6 99 w gx (.slice (some ⟨gx+1,0,none⟩) 2 2) p
 off:∀k,vo.ownBlock=some k->k≠gx/\k≠gx+1
theorem Qj.on {w0 w w':World} {vo vi:Value} {o i:List aC} {gx:Nat} {x:aC} {p:List aC} (h:Qj w0 gx x p w vo vi o i) (hb:Below w.heap.size w w'):Qj w0 gx x p w' vo vi o i:=
 ⟨h.duo.on hb,h.cpy.below hb (nR _),h.parts.below hb (nR _),h.off⟩
theorem Qj.grow {w0 w w':World} {vo vi:Value} {o i o':List aC} {g n c:Nat} {gx:Nat} {x:aC} {p:List aC} (h:Qj w0 gx x p w vo vi o i) (hg:w.grownBy w' vo.ownBlock) (ho:Os fR 6 99 w' w0.heap.size (.slice (some ⟨g,0,none⟩) n c) o') (hgg:some g=vo.ownBlock\/w.heap.size<=g):Qj w0 gx x p w' (.slice (some ⟨g,0,none⟩) n c) vi o' i:=
 ⟨h.duo.aNl hg ho hgg,h.cpy.frame hg (.inr (λe=>(h.off gx e.symm).1 rfl)),h.parts.frame hg (.inr (λe=>(h.off (gx+1) e.symm).2 rfl)),λk hk=>by
   simp[Value.ownBlock] at hk;subst hk;rcases hgg with e|e
   ·exact h.off _ e.symm
   ·have:=h.parts.vP.1;have:=h.cpy.vP.1;omega⟩
theorem Duo.start {w0 w:World} {vo vi:Value} {o i:List aC} (h:Duo w0 w vo vi o i) (x y z:aC):Qj w0 w.heap.size x [y,z] ((w.alloc (.cells (fR x).toArray 99)).alloc (.cells (fR y++fR z).toArray 99)) vo vi o i:=by
 have h1:Below w.heap.size w (w.alloc (.cells (fR x).toArray 99)):=(Below.refl _ _).alloc (nR _) _;have hs:(w.alloc (.cells (fR x).toArray 99)).heap.size=w.heap.size+1:=by simp
 have h2:Below (w.alloc (.cells (fR x).toArray 99)).heap.size (w.alloc (.cells (fR x).toArray 99)) ((w.alloc (.cells (fR x).toArray 99)).alloc (.cells (fR y++fR z).toArray 99)):=(Below.refl _ _).alloc (nR _) _;have a1:=aEf (T:=99) (w:=w) (base:=w.heap.size) gZ [x] 1 rfl (by simp) (nR _);have a2:=aEf (T:=99) (w:=w.alloc (.cells (fR x).toArray 99)) (base:=w.heap.size) gZ [y,z] 2 rfl (by simp) (by omega);rw[hs] at a2;refine⟨(h.on h1).on h2,Os.below (B:=(w.alloc (.cells (fR x).toArray 99)).heap.size) ?_ h2 (nR _),?_,λk hk=> ?_⟩
 ·simpa using a1
 ·simpa using a2
 ·have:=(h.out.jE k hk).1;omega
theorem Jk (A:Option Addr) (n c:Nat) (xs:List aC) (a b:Int) (w:World) (B:Nat) (hz:Rw fR 6 w B A n xs) (hB:B<=w.heap.size) (hbig:n<=1000000):
 Calls Tryz.prog 119 #[.slice A n c,.int .i64 a,.int .i64 b] w (aPc (gV a b xs) (fA a b xs) w):=by
 have hln:=hz.1;have HX:=hZ (λ(i:Nat) (hi:i<n)=>(⟨xs[i]'(by omega),List.getElem?_eq_getElem _⟩:∃x,xs[i]? =some x));have jN:=hZ hln;have HZ:=hZ hz;have HO:=hZ (λk (x:aC) (h:xs[k]? =some x)=>(congrArg (gV a b) (r9 h)).trans (aG1 a b (xs.take k) x));have HI:=hZ (λk (x:aC) (h:xs[k]? =some x)=>(congrArg (fA a b) (r9 h)).trans (aIV a b (xs.take k) x));have HOL:=hZ (λ(k:Nat) (h:k<=n)=>(show(gV a b (xs.take k)).length<=2*n from Nat.le_trans (Kl a b _) (by rw[List.length_take];omega)));have HIL:=hZ (λ(k:Nat) (h:k<=n)=>(show(fA a b (xs.take k)).length<=n from Nat.le_trans (Ri a b _) (by rw[List.length_take];omega)));have HOT:Hid (gV a b (xs.take n)=gV a b xs):=hZ (by rw[List.take_of_length_le (by omega)]);have HIT:Hid (fA a b (xs.take n)=fA a b xs):=hZ (by rw[List.take_of_length_le (by omega)]);have HA:Hid (0<n->∃b off,A=some ⟨b,off,none⟩/\b<B):=hZ (λh=>HZ.out.open h);obtain⟨fo,hfo⟩:∃f:Nat->List aC,f=λk=>gV a b (xs.take k):=⟨_,rfl⟩;obtain⟨fi,hfi⟩:∃f:Nat->List aC,f=λk=>fA a b (xs.take k):=⟨_,rfl⟩;have F0:Hid (fo 0=[]/\fi 0=[]):=hZ (by rw[hfo,hfi];exact⟨rfl,rfl⟩);have FO:Hid (∀k x,xs[k]? =some x->fo (k+1)=fo k++Ib a b x):=hZ (by rw[hfo];exact HO.out);have FI:Hid (∀k x,xs[k]? =some x->fi (k+1)=fi k++Ww a b x):=hZ (by rw[hfi];exact HI.out);have FOL:Hid (∀k,k<=n->(fo k).length<=2*n):=hZ (by rw[hfo];exact HOL.out);have FIL:Hid (∀k,k<=n->(fi k).length<=n):=hZ (by rw[hfi];exact HIL.out);have FT:Hid (fo n=gV a b xs/\fi n=fA a b xs):=hZ (by rw[hfo,hfi];exact⟨HOT.out,HIT.out⟩);generalize gV a b xs=oL at*;generalize fA a b xs=iL at*;clear hfo hfi HO HI HOL HIL HOT HIT hz hln;go_enter Tryz.func119,Tryz.ntmps119;go_wp2;go_loopw [6,7,15] (λvo vi i wr=>∃k:Nat,k<=n/\i=.int .i64 k/\Hid (Duo w wr vo vi (fo k) (fi k))) (λ_ _ i _=>n - (intOf i).toNat)
 case atStart=>exact⟨0,by omega,rfl,hZ ⟨Below.refl _ _,by rw[F0.out.1];exact Os.nil,by rw[F0.out.2];exact Os.nil,.inl rfl⟩⟩
 case round=>
  obtain⟨k,hk,rfl,HD⟩:=hrel;by_cases hlt:k<n
  ·obtain⟨x,hx⟩:=HX.out k hlt
   obtain⟨b',off,q8,hb'⟩:=HA.out (by omega);subst q8;have hsz:=HD.out.below.size;have hcs:=(HZ.out.below (HD.out.below.mono hB)).at_ gZ hx;have Ec:wr.cell? ⟨b',off+k*6,none⟩=some (.int .i64 x.f):=hcs 0 _ rfl;have Eb:wr.cell? ⟨b',off+k*6+1,none⟩=some (.int .i64 x.t):=hcs 1 _ rfl;have Vo:wr.cell? ⟨b',off+k*6+2,none⟩=some (.int .i64 x.a.r):=hcs 2 _ rfl;have xc3:wr.cell? ⟨b',off+k*6+3,none⟩=some (.int .i64 x.a.k):=hcs 3 _ rfl;have xc4:wr.cell? ⟨b',off+k*6+4,none⟩=some (.bool x.a.g):=hcs 4 _ rfl;have xc5:wr.cell? ⟨b',off+k*6+5,none⟩=some (.bool x.a.s):=hcs 5 _ rfl;have HX0:=hZ hx;clear hcs hx;go_wp2;have HT0:=hZ (HD.out.start x ⟨x.f,min x.t a,x.a⟩ ⟨max x.f b,x.t,x.a⟩);have HOX:Hid (fo (k+1)=fo k++(yG a b x).flatMap uB):=hZ (by rw[<-aFb];exact FO.out k x HX0.out);have Fv:Hid (fi (k+1)=fi k++uB ⟨max x.f a,min x.t b,x.a⟩):=hZ (by rw[<-aIU];exact FI.out k x HX0.out);have hlo:=FOL.out k (by omega);have hli:=FIL.out k (by omega);have hgx:w.heap.size<=wr.heap.size:=hsz;clear HD HX0 Ec Eb Vo xc3 xc4 xc5;generalize HGx:wr.heap.size=gx at*;obtain⟨wo,hwo⟩:∃wo,wo=wr:=⟨_,rfl⟩;subst hwo;go_loopw [6,39] (λvo i wq=>∃j:Nat,j<=2/\i=.int .i64 j/\Hid (Qj w gx x (yG a b x) wq vo u7 (fo k++((yG a b x).take j).flatMap uB) (fi k))) (λ_ i _=>2 - (intOf i).toNat)
   case atStart=>exact⟨0,by omega,rfl,hZ (by have:=HT0.out;rw[List.take_zero,List.flatMap_nil,List.append_nil];exact this)⟩
   case round=>
    clear HT0;obtain⟨j,hj,rfl,HT⟩:=hrel;have hwr:=HT.out.duo.below.size;have hgl:=HT.out.parts.vP.1;by_cases hj2:j<2
    ·obtain⟨y,hy⟩:∃y,(yG a b x)[j]? =some y:=⟨_,List.getElem?_eq_getElem (by simpa[yG] using hj2)⟩
     have hcs:=HT.out.parts.cells gZ hy;have yc0:wr.cell? ⟨gx+1,j*6,none⟩=some (.int .i64 y.f):=(hcs 0 _ rfl).1;have yc1:wr.cell? ⟨gx+1,j*6+1,none⟩=some (.int .i64 y.t):=(hcs 1 _ rfl).1;have yc2:wr.cell? ⟨gx+1,j*6+2,none⟩=some (.int .i64 y.a.r):=(hcs 2 _ rfl).1;have yc3:wr.cell? ⟨gx+1,j*6+3,none⟩=some (.int .i64 y.a.k):=(hcs 3 _ rfl).1;have yc4:wr.cell? ⟨gx+1,j*6+4,none⟩=some (.bool y.a.g):=(hcs 4 _ rfl).1;have yc5:wr.cell? ⟨gx+1,j*6+5,none⟩=some (.bool y.a.s):=(hcs 5 _ rfl).1;have rW:Hid (((yG a b x).take (j+1)).flatMap uB=((yG a b x).take j).flatMap uB++uB y):=hZ (by rw[r9 hy,List.flatMap_append];simp);have hpl:(((yG a b x).take j).flatMap uB).length<=2:=Nat.le_trans (Mk _) (by rw[List.length_take];omega);clear hcs hy;generalize((yG a b x).take j).flatMap uB=qs at*;have HT1:=hZ (HT.out.on ((Below.refl wr.heap.size wr).alloc (nR _) (.cells #[.int .i64 y.f,.int .i64 y.t,.int .i64 y.a.r,.int .i64 y.a.k,.bool y.a.g,.bool y.a.s] 99)));have hj0:(0:Int)<=(j:Int):=by omega
     have hj1:(j:Int)<2:=by omega
     clear HT;by_cases hlt2:y.f<y.t
     ·have HSY:=hZ (Od hlt2)
      go_wp2_with(at_builtin;refine aDj rfl _ _ rfl w.heap.size u6 (fo k++qs) (wr.alloc (.cells #[.int .i64 y.f,.int .i64 y.t,.int .i64 y.a.r,.int .i64 y.a.k,.bool y.a.g,.bool y.a.s] 99)) y (wr.heap.size+1) rfl rfl (by simp) HT1.out.duo.out (by simp;omega) (by rw[List.length_append];omega) ?_)
      intro g' c' w' ho hg hgg hbg hc hm;have HT2:=hZ (HT1.out.grow hg ho (hgg.imp id λh=>by simpa using h));clear hg ho hgg HT1 yc0 yc1 yc2 yc3 yc4 yc5;go_wp2;go_roundw
      case rel=>exact⟨j+1,by omega,by go_num,hZ (by rw[rW.out,HSY.out];exact HT2.out)⟩
      case measure=>simp[intOf];omega
     ·have HSY:=hZ (Uf hlt2)
      have hle2:y.t<=y.f:=by omega
      go_wp2;go_roundw
      case rel=>exact⟨j+1,by omega,by go_num,hZ (by rw[rW.out,HSY.out,List.append_nil];exact HT1.out)⟩
      case measure=>simp[intOf];omega
    ·have C8:j=2:=by omega
     subst C8;have HD2:Hid (Duo w wr u6 u7 (fo (k+1)) (fi k)):=hZ (by rw[HOX.out];exact HT.out.duo);have hcs:=HT.out.cpy.cells (i:=0) gZ rfl;have kc0:wr.cell? ⟨gx,0,none⟩=some (.int .i64 x.f):=by have:=(hcs 0 _ rfl).1;rwa[Nat.zero_mul,Nat.zero_add] at this
     have kc1:wr.cell? ⟨gx,1,none⟩=some (.int .i64 x.t):=by have:=(hcs 1 _ rfl).1;rwa[Nat.zero_mul,Nat.zero_add] at this
     have kc2:wr.cell? ⟨gx,2,none⟩=some (.int .i64 x.a.r):=by have:=(hcs 2 _ rfl).1;rwa[Nat.zero_mul,Nat.zero_add] at this
     have kc3:wr.cell? ⟨gx,3,none⟩=some (.int .i64 x.a.k):=by have:=(hcs 3 _ rfl).1;rwa[Nat.zero_mul,Nat.zero_add] at this
     have kc4:wr.cell? ⟨gx,4,none⟩=some (.bool x.a.g):=by have:=(hcs 4 _ rfl).1;rwa[Nat.zero_mul,Nat.zero_add] at this
     have kc5:wr.cell? ⟨gx,5,none⟩=some (.bool x.a.s):=by have:=(hcs 5 _ rfl).1;rwa[Nat.zero_mul,Nat.zero_add] at this
     have hgx2:=HT.out.cpy.vP.1;clear hcs HT;have HD3:=hZ (HD2.out.on ((Below.refl wr.heap.size wr).alloc (nR _) (.cells #[.int .i64 (max x.f a),.int .i64 (min x.t b),.int .i64 x.a.r,.int .i64 x.a.k,.bool x.a.g,.bool x.a.s] 99)));clear HD2;by_cases hlt3:max x.f a<min x.t b
     ·have iC:=hZ (Od (x:=⟨max x.f a,min x.t b,x.a⟩) hlt3)
      go_wp2_with(at_builtin;refine aDj rfl _ _ rfl w.heap.size u7 (fi k) (wr.alloc (.cells #[.int .i64 (max x.f a),.int .i64 (min x.t b),.int .i64 x.a.r,.int .i64 x.a.k,.bool x.a.g,.bool x.a.s] 99)) ⟨max x.f a,min x.t b,x.a⟩ (wr.heap.size+1) rfl rfl (by simp) HD3.out.ins (by simp;omega) (by omega) ?_)
      intro g' c' w' ho hg hgg hbg hc hm;have HD4:=hZ (HD3.out.aNm hg ho (hgg.imp id λh=>by simpa using h));clear hg ho hgg HD3 kc0 kc1 kc2 kc3 kc4 kc5;go_wp2;go_roundw
      case rel=>exact⟨k+1,by omega,by go_num,hZ (by rw[Fv.out,iC.out];exact HD4.out)⟩
      case measure=>simp[intOf];omega
     ·have iC:=hZ (Uf (x:=⟨max x.f a,min x.t b,x.a⟩) hlt3)
      have hle3:min x.t b<=max x.f a:=by omega
      go_wp2;go_roundw
      case rel=>exact⟨k+1,by omega,by go_num,hZ (by rw[Fv.out,iC.out,List.append_nil];exact HD3.out)⟩
      case measure=>simp[intOf];omega
  ·have hkn:n=k:=by omega
   subst hkn;have HD2:=HD.out;rw[FT.out.1,FT.out.2] at HD2;clear HD;go_wp2
   go_ret2
   exact⟨_,_,rfl,HD2.out,HD2.ins,HD2.apart,HD2.below⟩
end
end Go.Proofs.YtoogfmbojlpjaaaGreat
namespace Go.Proofs.YtoogfmbojlpjaaaGreat
open Go.ChangeShapes Go.WideShapes Go.ChangeAt Go.RowKit Go.Joins
def aF9 (g:Nat) (p:eY->Bool):Prop:=∀(W:World) (x:eY),Calls Tryz.prog g #[.agg #[.int .i64 x.r,.int .i64 x.k,.bool x.g,.bool x.s]] W λe w'=>e=.returned (.bool (p x))/\Below W.heap.size W w'
theorem aGJ (g:Nat) (eg:∀args w,(callFunc g args).run Tryz.prog w=.ok (.enter g args) w) (p:eY->Bool) (hg:aF9 g p) (w:World) (b base:Nat) (hb:b<base) (hbase:base<=w.heap.size) (hc:w.cell? ⟨b,0,none⟩=some (.func (.func g) #[] #[])):
 aBg 121 #[.pointer (some ⟨b,0,none⟩)] (λx=>p x.a) base w:=by
 intro W x hW;have h1:W.cell? ⟨b,0,none⟩=some (.func (.func g) #[] #[]):=(hW.cell (p:=⟨b,0,none⟩) hb).trans hc;have hlt:b<W.heap.size:=by have:=hW.size;omega
 have hcall:=hg (W.alloc (.cells #[.int .i64 x.f,.int .i64 x.t,.int .i64 x.a.r,.int .i64 x.a.k,.bool x.a.g,.bool x.a.s] 99)) x.a;clear hW hc;go_enter Tryz.func121,Tryz.ntmps121;go_wp2_with(go_at_fn g;refine hcall.mono ?_;rintro e w' ⟨rfl,hb'⟩)
 go_ret;exact⟨bH rfl,((Below.refl _ _).alloc (nR _) _).trans (hb'.mono (by simp))⟩
theorem Kb (g:Nat) (eg:∀args w,(callFunc g args).run Tryz.prog w=.ok (.enter g args) w) (p:eY->Bool) (hg:aF9 g p) (A:Option Addr) (n c:Nat) (xs:List aC) (a b:Int) (w:World) (B:Nat) (hz:Rw fR 6 w B A n xs) (hB:B<=w.heap.size) (hbig:n<=1000000):
 Calls Tryz.prog 75 #[.slice A n c,.int .i64 a,.int .i64 b,.func (.func g) #[] #[]] w λe w'=>e=.returned (.bool ((fA a b xs).any λx=>p x.a))/\Below w.heap.size w w':=by
 have hln:=hz.1;have hil:(fA a b xs).length<=1000000:=Nat.le_trans (Ri a b xs) (by omega);have hW0:Below w.heap.size w (w.alloc (.cells #[.func (.func g) #[] #[]] 154)):=(Below.refl _ _).alloc (nR _) _;have hcut:=Jk A n c xs a b (w.alloc (.cells #[.func (.func g) #[] #[]] 154)) B (hz.below (hW0.mono hB)) (by simp;omega) hbig;have HG:=hZ hg;have HP:=hZ (λw1 hs hb=>aGJ g eg p hg w1 w.heap.size (w.heap.size+1) (Nat.lt_succ_self _) hs hb);have Ev:(w.alloc (.cells #[.func (.func g) #[] #[]] 154)).cell? ⟨w.heap.size,0,none⟩=some (.func (.func g) #[] #[]):=by simp[go_sem]
 have tT:=hZ Ev;have HW0:=hZ hW0;clear hg hz hln Ev hW0;generalize fA a b xs=il at*;go_enter Tryz.func75,Tryz.ntmps75;go_wp2_with(go_at_call 119;refine hcut.mono ?_;rintro e w1 ⟨vo,vi,rfl,ho,hi,hap,hb1⟩)
 simp only[World.size_alloc] at ho hi hb1;have hs1:w.heap.size+1<=w1.heap.size:=by have:=hb1.size;simpa using this
 have hP:=HP.out w1 hs1 ((hb1.cell (p:=⟨w.heap.size,0,none⟩) (Nat.lt_succ_self _)).trans tT.out);obtain⟨Ai,ci,rfl,hl1,hl2,hr⟩:=hi.row gZ;have hcon:=Jm _ _ (enters_of Tryz.func121 (by kernel_rfl) rfl) (λx=>p x.a) Ai il.length ci il w1 w1.heap.size (w.heap.size+1) hr (nR _) hs1 (by omega) hP;have HW1:=hZ (HW0.out.trans (hb1.mono (by omega)));clear hP hr ho hi hap hb1;go_wp2_with(go_at_call 120;refine hcon.mono ?_;rintro e w2 ⟨rfl,hb2⟩)
 go_ret;exact⟨bH rfl,HW1.out.trans (hb2.mono (by omega))⟩
theorem aKx:aF9 179 (λ_=>true):=by
 intro W x;go_enter Tryz.func179,Tryz.ntmps179;go_wp2;go_ret;exact⟨bH rfl,(Below.refl _ _).alloc (nR _) _⟩
def Rk (xs:List aC) (at_ count:Int):Bool:=(fA (max (at_ -1) 0) (min (at_+count+1) 64) xs).isEmpty
theorem any_true {α:Type} :∀l:List α,(l.any λ_=>true)= !l.isEmpty
 | []=>rfl
 |_::_=>by simp
theorem aJi (A:Option Addr) (n c:Nat) (xs:List aC) (at_ count:Int) (w:World) (B:Nat) (hz:Rw fR 6 w B A n xs) (hB:B<=w.heap.size) (hbig:n<=1000000) (h0:0<=at_) (h1:at_<=64) (h2:0<=count) (h3:count<=64):
 Calls Tryz.prog 165 #[.slice A n c,.int .i64 at_,.int .i64 count] w λe w'=>e=.returned (.bool (Rk xs at_ count))/\Below w.heap.size w w':=by
 have hs:=Kb _ (enters_of Tryz.func179 (by kernel_rfl) rfl) _ aKx A n c xs (max (at_ -1) 0) (min (at_+count+1) 64) w B hz hB hbig;have HF:Hid (Rk xs at_ count= !((fA (max (at_ -1) 0) (min (at_+count+1) 64) xs).any λ_=>true)):=hZ (by rw[any_true,Bool.not_not];rfl);generalize((fA (max (at_ -1) 0) (min (at_+count+1) 64) xs).any λ_=>true)=r at*;clear hz;go_enter Tryz.func165,Tryz.ntmps165;go_wp2_with(go_at_call 75;refine hs.mono ?_;rintro e w' ⟨rfl,hb'⟩)
 go_ret;exact⟨bH (by rw[HF.out]),hb'⟩
def fI (i:Int):List Value:=[.int .i64 i]
theorem Xk (x:Int):(fI x).length=1:=rfl
theorem aLO (x:Int):∀u∈fI x,u.oneCell'=true:=by intro u hu;simp[fI] at hu;subst hu;rfl
theorem aLz:(Tryz.prog.info? 3).map (λi=>(i.zero,i.size,i.bytes))=some (some (.int .i64 0),1,8):=by kernel_rfl
theorem aDk {ops:Array Oper} {rest:List Oper} {o:Oper} {a:Act} {Q:Exit->Act->World->Prop} (hgd:o.guard=none) (s x:Operand) (ho:o.op=.call { callee:=.builtin .append,args:= #[s,x],argTypes:= #[48,48] })
 (base:Nat) (v:Value) (t:List Int) (W:World) (c:Int) (gx:Nat) (hs:a.eval s=v) (hx:a.eval x=.slice (some ⟨gx,0,none⟩) 1 1) (hgx:gx=W.heap.size) (hos:Os fI 1 3 W base v t) (hb:base<=W.heap.size) (hlen:t.length+1<=1000000)
 (hK:∀g' c' w',Os fI 1 3 w' base (.slice (some ⟨g',0,none⟩) (t.length+1) c') (t++ [c])->Below base W w'->base<=g'->t.length+1<=c'->c'<=maxLen->wpList Tryz.prog ops Q rest (a.put o.dst (.slice (some ⟨g',0,none⟩) (t.length+1) c')) w'):
 wpList Tryz.prog ops Q (o::rest) a (W.alloc (.cells #[.int .i64 c] 3)):=
 nW Tryz.underlying48 aLz rfl (by decide) Xk aLO hgd s x ho base v t W c gx hs hx hgx hos hb (by unfold maxLen;omega) (by omega) hK
def upTo (xs:List aC) (count:Int) (k:Nat):List Int:=((List.range k).map Int.ofNat).filter (λp=>Rk xs p count)
theorem aGp (xs:List aC) (count:Int) (k:Nat):upTo xs count (k+1)=upTo xs count k++if Rk xs k count=true then [(k:Int)] else []:=by
 unfold upTo;rw[List.range_succ,List.map_append,List.filter_append];congr 1;simp only[List.map_cons,List.map_nil,List.filter_cons,List.filter_nil];rfl
theorem aBr (xs:List aC) (count:Int) (k:Nat):(upTo xs count k).length<=k:=Nat.le_trans (List.length_filter_le _ _) (by simp)
def qO (xs:List aC) (count:Int):List Int:=if bF xs=true/\1<=count then upTo xs count (65 -count).toNat else []
theorem aJL (xs:List aC) (count:Int):(qO xs count).length<=64:=by
 unfold qO;split
 ·rename_i h;have:=aBr xs count (65 -count).toNat;omega
 ·simp
theorem aAj:∀(l:List aC) (q:Option aC) (b:Int),jG q l=true->(∀p,q=some p->b<=p.t)->(q=none->b<=0)->l.length+b<=64\/l=[]
 | [],_,_,_,_,_=>.inr rfl
 |x::l,q,b,h,hq,hn=>by
  unfold jG at h;simp only[Bool.and_eq_true] at h;obtain⟨⟨h1,h2⟩,h3⟩:=h;unfold zJ at h1;simp only[Bool.and_eq_true,decide_eq_true_eq] at h1;have hb:b<=x.f:=by
   cases q with
   |none=>have:=hn rfl;omega
   |some p=>
    have:=hq p rfl;simp[kF] at h2;omega
  rcases aAj l (some x) x.t h3 (λp hp=>by cases hp;exact Int.le_refl _) (λh=>by cases h) with h|h
  ·left;simp only[List.length_cons];omega
  ·left;subst h;simp;omega
theorem mE {l:List aC} (h:bF l=true):l.length<=64:=by
 rcases aAj l none 0 h (λp hp=>by cases hp) (λ_=>Int.le_refl _) with h|h
 ·omega
 ·subst h;simp
theorem aL4 (A:Option Addr) (n c:Nat) (xs:List aC) (count:Int) (w:World) (B:Nat) (hz:Rw fR 6 w B A n xs) (hB:B<=w.heap.size) (hbig:n<=140737488355328) (h64:eG count):
 Calls Tryz.prog 141 #[.slice A n c,.int .i64 count] w (Gives fI 1 3 w.heap.size w (qO xs count)):=by
 unfold eG at h64;have hln:=hz.1;have hright:=Bl A n c xs w B hz hB hbig;have NO:Hid (¬(bF xs=true/\1<=count)->∀w',Below w.heap.size w w'->Gives fI 1 3 w.heap.size w (qO xs count) (.returned (.slice none 0 0)) w'):=hZ (λh w' hb=>⟨_,rfl,by unfold qO;rw[if_neg h];exact Os.nil,hb⟩);cases hr:bF xs with
 |false=>
  rw[hr] at hright;have tQ:=hZ (NO.out (by rw[hr];simp));clear hz NO hr;go_enter Tryz.func141,Tryz.ntmps141;go_wp2_with(go_at_call 140;refine hright.mono ?_;rintro e w' ⟨rfl,hb'⟩)
  go_ret;exact tQ.out _ hb'
 |true=>
  rw[hr] at hright;by_cases hc:count<1
  ·have tQ:=hZ (NO.out (by omega))
   clear hz NO hr;go_enter Tryz.func141,Tryz.ntmps141;go_wp2_with(go_at_call 140;refine hright.mono ?_;rintro e w' ⟨rfl,hb'⟩)
   go_ret;exact tQ.out _ hb'
  ·have hc1:1<=count:=by omega
   have aPR:n<=64:=by have:=mE hr;omega
   have YES:Hid (qO xs count=upTo xs count (65 -count).toNat):=hZ (by unfold qO;rw[if_pos ⟨hr,hc1⟩]);have HF:=hZ (λ(w':World) (hb:Below w.heap.size w w') (k:Nat) (hk:(k:Int)<=64 -count)=>aJi A n c xs k count w' B (hz.below (hb.mono hB)) (Nat.le_trans hB hb.size) (by omega) (by omega) (by omega) (by omega) (by omega));have Te:=hZ (aGp xs count);have HUL:=hZ (aBr xs count);have HU0:Hid (upTo xs count 0=[]):=hZ rfl;generalize upTo xs count=u at*;generalize qO xs count=al at*;obtain⟨fb,Xd⟩:∃f:Nat->Bool,f=λ(k:Nat)=>Rk xs k count:=⟨_,rfl⟩;have Js:Hid (∀(w':World) (hb:Below w.heap.size w w') (k:Nat) (hk:(k:Int)<=64 -count),Calls Tryz.prog 165 #[.slice A n c,.int .i64 k,.int .i64 count] w' λe w''=>e=.returned (.bool (fb k))/\Below w'.heap.size w' w''):=hZ (by rw[Xd];exact HF.out);have aPf:Hid (∀k,u (k+1)=u k++if fb k=true then [(k:Int)] else []):=hZ (by rw[Xd];exact Te.out);clear hz NO hr Xd HF Te;go_enter Tryz.func141,Tryz.ntmps141;go_wp2_with(go_at_call 140;refine hright.mono ?_;rintro e w1 ⟨rfl,hb1⟩)
   have HB1:=hZ hb1;clear hb1 hright;go_loopw [5,6] (λv i wr=>∃k:Nat,k<=(65 -count).toNat/\i=.int .i64 k/\Hid (Os fI 1 3 wr w.heap.size v (u k))/\Hid (Below w.heap.size w wr)) (λ_ i _=>65 - (intOf i).toNat)
   case atStart=>exact⟨0,by omega,rfl,hZ (by rw[HU0.out];exact Os.nil),HB1⟩
   case round=>
    obtain⟨k,hk,rfl,HO,HB⟩:=hrel;have hlen:=HUL.out k;have hsz:=HB.out.size;by_cases hlt:(k:Int)<=64 -count
    ·have hcall:=Js.out wr HB.out k hlt
     have hkb:(k:Int)<65 -count:=by omega
     have HU:=hZ (aPf.out k);have hcw:(64:Int) -count<=63:=by omega
     cases hq:fb k with
     |false=>
      rw[hq] at hcall;have Yf:Hid (u (k+1)=u k):=hZ (by rw[HU.out,hq];simp);clear hq;go_wp2_with(go_at_call 165;refine hcall.mono ?_;rintro e w2 ⟨rfl,hb2⟩)
      go_roundw
      case rel=>exact⟨k+1,by omega,by go_num,hZ (by rw[Yf.out];exact HO.out.below hb2 (nR _)),hZ (HB.out.trans (hb2.mono hsz))⟩
      case measure=>simp[intOf];omega
     |true=>
      rw[hq] at hcall;have Yf:Hid (u (k+1)=u k++ [(k:Int)]):=hZ (by rw[HU.out,hq];simp);clear hq;go_wp2_with(first
       |(go_at_call 165;refine hcall.mono ?_;rintro e w2 ⟨rfl,hb2⟩)
       |(at_builtin;refine aDk rfl _ _ rfl w.heap.size u5 (u k) w2 k w2.heap.size rfl rfl rfl (HO.out.below hb2 (nR _)) (Nat.le_trans hsz hb2.size) (by omega) ?_;intro g' c' w' ho hb3 hbg hcc hm))
      go_roundw
      case rel=>exact⟨k+1,by omega,by go_num,hZ (by rw[Yf.out];exact ho),hZ ((HB.out.trans (hb2.mono hsz)).trans hb3)⟩
      case measure=>simp[intOf];omega
    ·have hke:k=(65 -count).toNat:=by omega
     have hcw:(64:Int) -count<=63:=by omega
     have HU:Hid (u k=al):=hZ (by rw[YES.out,hke]);have hlt2:64 -count<(k:Int):=by omega
     go_wp2;go_ret;exact⟨_,rfl,by rw[<-HU.out];exact HO.out,HB.out⟩
def Co (al:List Int) (draw:Int):Int:=(draw.tmod al.length+al.length).tmod al.length
def vB (xs:List aC) (count:Int):Int:=if bF xs=false then 1 else if count<1\/64<count then 2 else if qO xs count=[] then 4 else 0
def nZ (xs:List aC) (count draw:Int):Int:=if vB xs count=0 then(qO xs count).getD (Co (qO xs count) draw).toNat 0 else 0
def Two (a b:Int) (w:World) (e:Ending) (w':World):Prop:=e=.returned (.tuple #[.int .i64 a,.int .i64 b])/\Below w.heap.size w w'
theorem aFS (A:Option Addr) (n c:Nat) (xs:List aC) (count draw:Int) (w:World) (B:Nat) (hz:Rw fR 6 w B A n xs) (hB:B<=w.heap.size) (hbig:n<=140737488355328) (h64:eG count) (aPL:eG draw):
 Calls Tryz.prog 95 #[.slice A n c,.int .i64 count,.int .i64 draw] w (Two (nZ xs count draw) (vB xs count) w):=by
 have hright:=Bl A n c xs w B hz hB hbig;have NO:Hid (∀E:Int,vB xs count=E->E≠0->∀w',Below w.heap.size w w'->Two (nZ xs count draw) (vB xs count) w (.returned (.tuple #[.int .i64 0,.int .i64 E])) w'):=hZ (λE h h0 w' hb=>by
  unfold nZ;rw[h,if_neg h0];exact⟨rfl,hb⟩)
 cases hr:bF xs with
 |false=>
  rw[hr] at hright;have tQ:=hZ (NO.out 1 (by unfold vB;rw[if_pos hr]) (by decide));clear hz NO hr;go_enter Tryz.func95,Tryz.ntmps95;go_wp2_with(go_at_call 140;refine hright.mono ?_;rintro e w' ⟨rfl,hb'⟩)
  go_ret2
  exact tQ.out _ hb'
 |true=>
  rw[hr] at hright;by_cases hc:count<1
  ·have tQ:=hZ (NO.out 2 (by unfold vB;rw[if_neg (by rw[hr];simp),if_pos (.inl hc)]) (by decide))
   clear hz NO hr;go_enter Tryz.func95,Tryz.ntmps95;go_wp2_with(go_at_call 140;refine hright.mono ?_;rintro e w' ⟨rfl,hb'⟩)
   go_ret2
   exact tQ.out _ hb'
  ·have hc1:1<=count:=by omega
   by_cases hc2:64<count
   ·have tQ:=hZ (NO.out 2 (by unfold vB;rw[if_neg (by rw[hr];simp),if_pos (.inr hc2)]) (by decide))
    clear hz NO hr;go_enter Tryz.func95,Tryz.ntmps95;go_wp2_with(go_at_call 140;refine hright.mono ?_;rintro e w' ⟨rfl,hb'⟩)
    go_ret2
    exact tQ.out _ hb'
   ·have hc3:count<=64:=by omega
    have hall:=λ(w':World) (hb:Below w.heap.size w w')=>aL4 A n c xs count w' B (hz.below (hb.mono hB)) (Nat.le_trans hB hb.size) hbig h64;have Vl:=hZ hall;have hal:=aJL xs count;by_cases he:qO xs count=[]
    ·have tQ:=hZ (NO.out 4 (by unfold vB;rw[if_neg (by rw[hr];simp),if_neg (by omega),if_pos he]) (by decide))
     rw[he] at Vl;clear hz NO hr hall he hal;go_enter Tryz.func95,Tryz.ntmps95;go_wp2_with(go_at_call 140;refine hright.mono ?_;rintro e w' ⟨rfl,hb'⟩)
     have hcall:=Vl.out w' hb';have HB:=hZ hb';clear hb' Vl;go_wp2_with(go_at_call 141;refine hcall.mono ?_;rintro e w2 ⟨v,rfl,ho,hb2⟩;obtain⟨A2,c2,rfl,_,_,_⟩:=ho.row Xk)
     go_ret2
     exact tQ.out _ (HB.out.trans (hb2.mono HB.out.size))
    ·have hE:vB xs count=0:=by unfold vB;rw[if_neg (by rw[hr];simp),if_neg (by omega),if_neg he]
     have hN:nZ xs count draw=(qO xs count).getD (Co (qO xs count) draw).toNat 0:=by unfold nZ;rw[if_pos hE]
     rw[hE,hN];clear NO hE hN hr;generalize qO xs count=al at*;have hl0:0<al.length:=List.length_pos_iff.2 he;have hi0:0<=Co al draw:=by unfold Co;exact Int.tmod_nonneg _ (by have:=Int.lt_tmod_of_pos draw (b:=al.length) (by omega);omega)
     have hi1:Co al draw<al.length:=by unfold Co;exact Int.tmod_lt_of_pos _ (by omega)
     have hq1: -(al.length:Int)<draw.tmod al.length:=Int.lt_tmod_of_pos draw (by omega);have hq2:draw.tmod al.length<al.length:=Int.tmod_lt_of_pos draw (by omega);have hI:(draw.tmod al.length+al.length).tmod al.length=Co al draw:=rfl;generalize Co al draw=k at*;obtain⟨m,rfl⟩:=Int.eq_ofNat_of_zero_le hi0;have hm:m<al.length:=by omega
     have aPs:Hid (al.getD (Int.toNat m) 0=al[m]):=hZ (by simp[List.getD,hm]);have HM:Hid (al[m]? =some al[m]):=hZ (List.getElem?_eq_getElem hm);have hne:(al.length:Int)≠0:=by omega
     have hnb:((al.length:Int)==0)=false:=by simpa using hne
     generalize al[m]=z at*;generalize al.getD (Int.toNat m) 0=gd at*;have hw:wrap64 (draw.tmod al.length+al.length)=draw.tmod al.length+al.length:=by unfold wrap64;omega
     have hm0:(0:Int)<=(m:Int):=by omega
     have hm1:(m:Int)<(al.length:Int):=by omega
     clear hq1 hq2;clear hz hall he hi0 hi1;go_enter Tryz.func95,Tryz.ntmps95;go_wp2_with(go_at_call 140;refine hright.mono ?_;rintro e w' ⟨rfl,hb'⟩)
     have hcall:=Vl.out w' hb';have HB:=hZ hb';clear hb' Vl;go_wp2_with(go_at_call 141;refine hcall.mono ?_;rintro e w2 ⟨v,rfl,ho,hb2⟩;obtain⟨A2,c2,rfl,_,_,hrw⟩:=ho.row Xk)
     obtain⟨bb,off,rfl,hbb⟩:=hrw.open hl0;generalize al.length=ln at*;have hcell:w2.cell? ⟨bb,off+m,none⟩=some (.int .i64 z):=by have:=hrw.at_ Xk HM.out 0 _ rfl;rwa[Nat.mul_one,Nat.add_zero] at this
     have HB2:=hZ hb2;clear ho hb2 hrw HM hl0 hne hnb hal;go_wp2;go_simp;go_wp2
     go_ret2
     rw[aPs.out];exact⟨rfl,HB.out.trans (HB2.out.mono HB.out.size)⟩
end Go.Proofs.YtoogfmbojlpjaaaGreat
namespace Go.Proofs.YtoogfmbojlpjaaaGreat
def dF (l:List aC) (p:Int):Option eY:=(l.find? λx=>decide (x.f<=p)&&decide (p<x.t)).map (·.a)
def nP (a b:Int):Bool:=decide (0<=a)&&decide (a<b)&&decide (b<=64)
theorem uN {a b:Int} :nP a b=true↔0<=a/\a<b/\b<=64:=by simp[nP,and_assoc]
def nV (xs:List aC) (a b:Int):Int:=if bF xs=false then 1 else if nP a b=false then 2 else 0
def sP (xs:List aC) (a b:Int):List aC:=if nV xs a b=0 then norm (gV a b xs) else []
def rJ (xs:List aC) (x:aC):Int:=if bF xs=false then 1 else if nP x.f x.t=false then 2 else if fA x.f x.t xs=[] then 0 else 7
def sS (xs:List aC) (x:aC):List aC:=if rJ xs x=0 then norm (gV x.f x.t xs++ [x]) else []
def dP (xs:List aC) (a b:Int):Int:=if bF xs=false then 1 else if nP a b=false then 2 else if tot (fA a b xs)<b -a then 3 else 0
def dY (xs:List aC) (a b:Int) (f:eY->eY):List aC:=if dP xs a b=0 then norm (gV a b xs++(fA a b xs).map (x9 f)) else []
theorem aAN {xs:List aC} {a b:Int} (h:nV xs a b=0):bF xs=true/\0<=a/\a<b/\b<=64:=by
 unfold nV at h;cases hr:bF xs with
 |false=>rw[hr] at h;simp at h
 |true=>
  cases hs:nP a b with
  |false=>rw[hr,hs] at h;simp at h
  |true=>exact⟨rfl,uN.1 hs⟩
theorem Rs {xs:List aC} {a b:Int} (h:nV xs a b=0):bF (sP xs a b)=true/\∀p t,Has (sP xs a b) p t↔Has xs p t/\¬(a<=p/\p<b):=by
 obtain⟨hr,h0,h1,h2⟩:=aAN h;unfold sP;rw[if_pos h];have hg:=Ld (fE hr) (a:=a) (b:=b) (by omega);exact⟨Dr hg,λp t=>(Kr hg p t).trans (Zh (by omega))⟩
theorem aA0 {xs:List aC} {x:aC} (h:rJ xs x=0):bF xs=true/\0<=x.f/\x.f<x.t/\x.t<=64/\fA x.f x.t xs=[]:=by
 unfold rJ at h;cases hr:bF xs with
 |false=>rw[hr] at h;simp at h
 |true=>
  cases hs:nP x.f x.t with
  |false=>rw[hr,hs] at h;simp at h
  |true=>
   obtain⟨h1,h2,h3⟩:=uN.1 hs;by_cases hi:fA x.f x.t xs=[]
   ·exact⟨rfl,h1,h2,h3,hi⟩
   ·rw[hr,hs,if_neg (by simp),if_neg (by simp),if_neg hi] at h;simp at h
theorem Ze {xs:List aC} {a b:Int} (h:fA a b xs=[]) (p:Int) (t:eY) (hp:Has xs p t):¬(a<=p/\p<b):=λhh=>by
 have:=(Ex (a:=a) (b:=b)).2 ⟨hp,hh⟩;rw[h] at this;exact Ah this
theorem Zp {xs:List aC} {x:aC} (h:rJ xs x=0):bF (sS xs x)=true/\∀p t,Has (sS xs x) p t↔Has xs p t\/(x.f<=p/\p<x.t/\x.a=t):=by
 obtain⟨hr,h0,h1,h2,hi⟩:=aA0 h;unfold sS;rw[if_pos h];have hg:=aCH (fE hr) h0 h1 h2;refine⟨Dr hg,λp t=>(Kr hg p t).trans ?_⟩;rw[Dv,Zh (by omega),Zi];constructor
 ·rintro(h|h)
  ·exact .inl h.1
  ·exact .inr h
 ·rintro(h|h)
  ·exact .inl ⟨h,Ze hi p t h⟩
  ·exact .inr h
theorem Vz {xs:List aC} {a b:Int} (h:dP xs a b=0):bF xs=true/\0<=a/\a<b/\b<=64/\∀p,a<=p->p<b->∃t,Has xs p t:=by
 unfold dP at h;cases hr:bF xs with
 |false=>rw[hr] at h;simp at h
 |true=>
  cases hs:nP a b with
  |false=>rw[hr,hs] at h;simp at h
  |true=>
   obtain⟨h1,h2,h3⟩:=uN.1 hs;rw[hr,hs,if_neg (by simp),if_neg (by simp)] at h;split at h
   ·simp at h
   ·exact⟨rfl,h1,h2,h3,aHY (fE hr) h1 h2 h3 (by omega)⟩
theorem zS {xs:List aC} {a b:Int} {f:eY->eY} (h:dP xs a b=0):bF (dY xs a b f)=true/\∀p t,Has (dY xs a b f) p t↔(Has xs p t/\¬(a<=p/\p<b))\/(a<=p/\p<b/\∃s,Has xs p s/\f s=t):=by
 obtain⟨hr,h0,h1,h2,_⟩:=Vz h;unfold dY;rw[if_pos h];have hg:=aAy (f:=f) (fE hr) (a:=a) (b:=b) (by omega);refine⟨Dr hg,λp t=>(Kr hg p t).trans ?_⟩;rw[Dv,Zh (by omega),aLH];constructor
 ·rintro(h|⟨s,hs,e⟩)
  ·exact .inl h
  ·rw[Ex] at hs
   exact .inr ⟨hs.2.1,hs.2.2,s,hs.1,e⟩
 ·rintro(h|⟨q1,q2,s,hs,e⟩)
  ·exact .inl h
  ·exact .inr ⟨s,Ex.2 ⟨hs,q1,q2⟩,e⟩
theorem aLn {xs:List aC} {c p:Int} :p∈qO xs c↔bF xs=true/\1<=c/\0<=p/\p+c<=64/\Rk xs p c=true:=by
 unfold qO;split
 ·rename_i h
  unfold upTo;rw[List.mem_filter,List.mem_map];constructor
  ·rintro⟨⟨k,hk,rfl⟩,hf⟩
   rw[List.mem_range] at hk;exact⟨h.1,h.2,by simp,by simp;omega,hf⟩
  ·rintro⟨_,_,h3,h4,h5⟩
   exact⟨⟨p.toNat,by rw[List.mem_range];omega,by simp;omega⟩,h5⟩
 ·rename_i h
  constructor
  ·intro h1;cases h1
  ·rintro⟨h1,h2,_⟩;exact absurd ⟨h1,h2⟩ h
theorem aHO {xs:List aC} {c:Int} (h:vB xs c=0):bF xs=true/\1<=c/\c<=64/\qO xs c≠ []:=by
 unfold vB at h;cases hr:bF xs with
 |false=>rw[hr] at h;simp at h
 |true=>
  rw[hr,if_neg (by simp)] at h;split at h
  ·simp at h
  ·split at h
   ·simp at h
   ·rename_i h1 h2
    exact⟨rfl,by omega,by omega,h2⟩
theorem aMX {al:List Int} (h:al≠ []) (d:Int):0<=Co al d/\Co al d<al.length:=by
 have hl:0<al.length:=List.length_pos_iff.2 h;unfold Co;have h1:=Int.lt_tmod_of_pos d (show(0:Int)<(al.length:Int) by omega);have h2:=Int.tmod_nonneg (a:=d.tmod al.length+al.length) (al.length:Int) (by omega);have h3:=Int.tmod_lt_of_pos (d.tmod al.length+al.length) (show(0:Int)<(al.length:Int) by omega);exact⟨h2,h3⟩
theorem aNz {xs:List aC} {c d:Int} (h:vB xs c=0):nZ xs c d∈qO xs c:=by
 obtain⟨_,_,_,hne⟩:=aHO h;obtain⟨i1,i2⟩:=aMX hne d;unfold nZ;rw[if_pos h];have hl:(Co (qO xs c) d).toNat<(qO xs c).length:=by omega
 rw[List.getD_eq_getElem?_getD,List.getElem?_eq_getElem hl];exact List.getElem_mem _
end Go.Proofs.YtoogfmbojlpjaaaGreat
namespace Go.Proofs.YtoogfmbojlpjaaaGreat
open Go.ChangeShapes Go.WideShapes Go.ChangeAt Go.RowKit Go.Joins
theorem aHv {l:List aC} {p:Int} {m:Nat} (h:∀(j:Nat) (x:aC),j<m->l[j]? =some x->¬(x.f<=p/\p<x.t)):∀x,l[m]? =some x->x.f<=p->p<x.t->dF l p=some x.a:=by
 intro x hx h1 h2;unfold dF;have e:l=l.take m++x::l.drop (m+1):=by
  have hl:=(List.getElem?_eq_some_iff.1 hx).1;rw[<-(List.getElem?_eq_some_iff.1 hx).2,<-List.drop_eq_getElem_cons hl,List.take_append_drop]
 rw[e,List.find?_append,List.find?_eq_none.2 (λy hy=> ?_)]
 ·simp[h1,h2]
 ·obtain⟨j,hj⟩:=List.mem_iff_getElem?.1 hy
  have hj2:=(List.getElem?_eq_some_iff.1 hj).1;rw[List.length_take] at hj2;rw[List.getElem?_take_of_lt (by omega)] at hj;have:=h j y (by omega) hj;simp;omega
theorem aHw {l:List aC} {p:Int} (h:∀(j:Nat) (x:aC),l[j]? =some x->¬(x.f<=p/\p<x.t)):dF l p=none:=by
 unfold dF;rw[List.find?_eq_none.2 (λy hy=> ?_)]; ·rfl
 obtain⟨j,hj⟩:=List.mem_iff_getElem?.1 hy;have:=h j y hj;simp;omega
def zA:eY:=⟨0,0,false,false⟩
def Ym (o:Option eY) (w:World) (e:Ending) (w':World):Prop:=e=.returned (.tuple #[.agg #[.int .i64 (o.getD zA).r,.int .i64 (o.getD zA).k,.bool (o.getD zA).g,.bool (o.getD zA).s],.bool o.isSome])/\Below w.heap.size w w'
theorem aCT (A:Option Addr) (n c:Nat) (xs:List aC) (p:Int) (w:World) (B:Nat) (hz:Rw fR 6 w B A n xs) (hB:B<=w.heap.size) (hbig:n<=140737488355328):
 Calls Tryz.prog 25 #[.slice A n c,.int .i64 p] w (Ym (dF xs p) w):=by
 have hln:=hz.1;have HX:=hZ (λ(i:Nat) (hi:i<n)=>(⟨xs[i]'(by omega),List.getElem?_eq_getElem _⟩:∃x,xs[i]? =some x));have jN:=hZ hln;have HZ:=hZ hz;have HA:Hid (0<n->∃b off,A=some ⟨b,off,none⟩/\b<B):=hZ (λh=>HZ.out.open h);have HY:=hZ (λm (h:∀(j:Nat) (x:aC),j<m->xs[j]? =some x->¬(x.f<=p/\p<x.t))=>aHv h);have HN:=hZ (λ(h:∀(j:Nat) (x:aC),xs[j]? =some x->¬(x.f<=p/\p<x.t))=>aHw h);generalize dF xs p=res at*;clear hz hln;go_enter Tryz.func25,Tryz.ntmps25;go_wp2;go_loopw [10] (λi wr=>∃k:Nat,k<=n/\i=.int .i64 k/\Hid (Below (w.heap.size+1) (w.alloc (.cells #[.int .i64 0,.int .i64 0,.bool false,.bool false] 97)) wr)/\Hid (∀j x,j<k->xs[j]? =some x->¬(x.f<=p/\p<x.t))) (λi _=>n - (intOf i).toNat)
 case atStart=>exact⟨0,by omega,rfl,hZ (Below.refl _ _),hZ (λj x hj=>absurd hj (Nat.not_lt_zero _))⟩
 case round=>
  obtain⟨k,hk,rfl,HB,HG⟩:=hrel;have hb0:Below w.heap.size w wr:=((Below.refl w.heap.size w).alloc (nR _) _).trans (HB.out.mono (by omega));have HB0:=hZ hb0;have hsz0:=HB.out.size;rw[World.size_alloc] at hsz0;have rc0:wr.cell? ⟨w.heap.size,0,none⟩=some (.int .i64 0):=(HB.out.cell (p:=⟨w.heap.size,0,none⟩) (Nat.lt_succ_self _)).trans (by simp[go_sem]);have rc1:wr.cell? ⟨w.heap.size,1,none⟩=some (.int .i64 0):=(HB.out.cell (p:=⟨w.heap.size,1,none⟩) (Nat.lt_succ_self _)).trans (by simp[go_sem]);have rc2:wr.cell? ⟨w.heap.size,2,none⟩=some (.bool false):=(HB.out.cell (p:=⟨w.heap.size,2,none⟩) (Nat.lt_succ_self _)).trans (by simp[go_sem]);have rc3:wr.cell? ⟨w.heap.size,3,none⟩=some (.bool false):=(HB.out.cell (p:=⟨w.heap.size,3,none⟩) (Nat.lt_succ_self _)).trans (by simp[go_sem]);have rz0:wr.frozen? ⟨w.heap.size,0,none⟩=false:=(HB.out.frozen (p:=⟨w.heap.size,0,none⟩) (Nat.lt_succ_self _)).trans (by simp[go_sem]);have rz1:wr.frozen? ⟨w.heap.size,1,none⟩=false:=(HB.out.frozen (p:=⟨w.heap.size,1,none⟩) (Nat.lt_succ_self _)).trans (by simp[go_sem]);have rz2:wr.frozen? ⟨w.heap.size,2,none⟩=false:=(HB.out.frozen (p:=⟨w.heap.size,2,none⟩) (Nat.lt_succ_self _)).trans (by simp[go_sem]);have rz3:wr.frozen? ⟨w.heap.size,3,none⟩=false:=(HB.out.frozen (p:=⟨w.heap.size,3,none⟩) (Nat.lt_succ_self _)).trans (by simp[go_sem]);clear hb0;have hwl:w.heap.size<wr.heap.size:=by omega
  by_cases hlt:k<n
  ·obtain⟨x,hx⟩:=HX.out k hlt
   obtain⟨b,off,q8,hb⟩:=HA.out (by omega);subst q8;have hcs:=(HZ.out.below (HB0.out.mono hB)).at_ gZ hx;have Ec:wr.cell? ⟨b,off+k*6,none⟩=some (.int .i64 x.f):=hcs 0 _ rfl;have Eb:wr.cell? ⟨b,off+k*6+1,none⟩=some (.int .i64 x.t):=hcs 1 _ rfl;have Vo:wr.cell? ⟨b,off+k*6+2,none⟩=some (.int .i64 x.a.r):=hcs 2 _ rfl;have xc3:wr.cell? ⟨b,off+k*6+3,none⟩=some (.int .i64 x.a.k):=hcs 3 _ rfl;have xc4:wr.cell? ⟨b,off+k*6+4,none⟩=some (.bool x.a.g):=hcs 4 _ rfl;have xc5:wr.cell? ⟨b,off+k*6+5,none⟩=some (.bool x.a.s):=hcs 5 _ rfl;have HX0:=hZ hx;clear hcs hx;have uJ:=hZ (λ(h:¬(x.f<=p/\p<x.t))=>(show∀j y,j<k+1->xs[j]? =some y->¬(y.f<=p/\p<y.t) from λj y hj hy=>by
    by_cases e:j=k
    ·subst e;rw[HX0.out] at hy;cases hy;exact h
    ·exact HG.out j y (by omega) hy))
   by_cases h1:x.f<=p
   ·by_cases h2:p<x.t
    ·have HR:=hZ (HY.out k HG.out x HX0.out h1 h2)
     go_wp2;try simp only[Exit.inBlock,Exit.then]
     refine bodyPost_ret (v:=.tuple #[.agg #[.int .i64 x.a.r,.int .i64 x.a.k,.bool x.a.g,.bool x.a.s],.bool true]) (by simp[results,Tryz.results25,go_sem,rc0,rc1,rc2,rc3,hwl]) rfl ⟨?_,?_⟩
     ·rw[HR.out];rfl
     ·exact(((((HB0.out.setCell (p:=⟨w.heap.size,0,none⟩) (nR _) _).setCell (p:=⟨w.heap.size,1,none⟩) (nR _) _).setCell (p:=⟨w.heap.size,2,none⟩) (nR _) _).setCell (p:=⟨w.heap.size,3,none⟩) (nR _) _).alloc (by simp;omega) _)
    ·have h2':x.t<=p:=by omega
     have HS2:=hZ (uJ.out (by omega));go_wp2;go_roundw
     case rel=>exact⟨k+1,by omega,by go_num,hZ (HB.out.alloc (by omega) _),HS2⟩
     case measure=>simp[intOf];omega
   ·have h1':p<x.f:=by omega
    have HS2:=hZ (uJ.out (by omega));go_wp2;go_roundw
    case rel=>exact⟨k+1,by omega,by go_num,hZ (HB.out.alloc (by omega) _),HS2⟩
    case measure=>simp[intOf];omega
  ·have hkn:n=k:=by omega
   subst hkn;have HR:=hZ (HN.out λj x hx=>HG.out j x (by have:=(List.getElem?_eq_some_iff.1 hx).1;rw[jN.out] at this;exact this) hx);go_wp2;try simp only[Exit.inBlock,Exit.then]
   refine bodyPost_ret (v:=.tuple #[.agg #[.int .i64 0,.int .i64 0,.bool false,.bool false],.bool false]) (by simp[results,Tryz.results25,go_sem,rc0,rc1,rc2,rc3]) rfl ⟨?_,?_⟩
   ·rw[HR.out];rfl
   ·exact((((HB0.out.setCell (p:=⟨w.heap.size,0,none⟩) (nR _) _).setCell (p:=⟨w.heap.size,1,none⟩) (nR _) _).setCell (p:=⟨w.heap.size,2,none⟩) (nR _) _).setCell (p:=⟨w.heap.size,3,none⟩) (nR _) _)
theorem aBu (l:List aC) (x:aC):tot (l++ [x])=tot l+(x.t -x.f):=by rw[J6];simp[tot]
theorem Iz:∀l:List aC,(∀x∈l,0<=x.f/\x.f<x.t/\x.t<=64)->0<=tot l/\tot l<=64*l.length
 | [],_=>by simp[tot]
 |x::l,h=>by
  have h1:=h x List.mem_cons_self;have h2:=Iz l λy hy=>h y (List.mem_cons_of_mem _ hy);simp only[tot,List.length_cons];omega
theorem aHI (A:Option Addr) (n c:Nat) (xs:List aC) (w:World) (B:Nat) (hz:Rw fR 6 w B A n xs) (hB:B<=w.heap.size) (hbig:n<=1000) (hok:∀x∈xs,0<=x.f/\x.f<x.t/\x.t<=64):
 Calls Tryz.prog 78 #[.slice A n c] w λe w'=>e=.returned (.int .i64 (tot xs))/\Below w.heap.size w w':=by
 have hln:=hz.1;have HX:=hZ (λ(i:Nat) (hi:i<n)=>(⟨xs[i]'(by omega),List.getElem?_eq_getElem _⟩:∃x,xs[i]? =some x));have HZ:=hZ hz;have HA:Hid (0<n->∃b off,A=some ⟨b,off,none⟩/\b<B):=hZ (λh=>HZ.out.open h);have lH:=hZ (λk x (h:xs[k]? =some x)=>hok x (List.mem_of_getElem? h));obtain⟨tk,htk⟩:∃f:Nat->Int,f=λk=>tot (xs.take k):=⟨_,rfl⟩;have T0:Hid (tk 0=0):=hZ (by rw[htk];rfl);have TS:Hid (∀k x,xs[k]? =some x->tk (k+1)=tk k+(x.t -x.f)):=hZ (by rw[htk];exact λk x h=>(congrArg tot (r9 h)).trans (aBu _ x));have TL:Hid (∀k,k<=n->0<=tk k/\tk k<=64*n):=hZ (by
  rw[htk];intro k hk;have:=Iz (xs.take k) λx hx=>hok x (List.mem_of_mem_take hx);rw[List.length_take] at this;simp only;omega)
 have TN:Hid (tk n=tot xs):=hZ (by rw[htk];simp only;rw[List.take_of_length_le (by omega)]);generalize tot xs=res at*;clear htk hz hok hln;go_enter Tryz.func78,Tryz.ntmps78;go_wp2;go_loopw [3,8] (λv i wr=>∃k:Nat,k<=n/\i=.int .i64 k/\v=.int .i64 (tk k)/\Hid (Below w.heap.size w wr)) (λ_ i _=>n - (intOf i).toNat)
 case atStart=>exact⟨0,by omega,rfl,by rw[T0.out],hZ (Below.refl _ _)⟩
 case round=>
  obtain⟨k,hk,rfl,rfl,HB⟩:=hrel;have hsz:=HB.out.size;by_cases hlt:k<n
  ·obtain⟨x,hx⟩:=HX.out k hlt
   obtain⟨b,off,q8,hb⟩:=HA.out (by omega);subst q8;have hcs:=(HZ.out.below (HB.out.mono hB)).at_ gZ hx;have Ec:wr.cell? ⟨b,off+k*6,none⟩=some (.int .i64 x.f):=hcs 0 _ rfl;have Eb:wr.cell? ⟨b,off+k*6+1,none⟩=some (.int .i64 x.t):=hcs 1 _ rfl;have Vo:wr.cell? ⟨b,off+k*6+2,none⟩=some (.int .i64 x.a.r):=hcs 2 _ rfl;have xc3:wr.cell? ⟨b,off+k*6+3,none⟩=some (.int .i64 x.a.k):=hcs 3 _ rfl;have xc4:wr.cell? ⟨b,off+k*6+4,none⟩=some (.bool x.a.g):=hcs 4 _ rfl;have xc5:wr.cell? ⟨b,off+k*6+5,none⟩=some (.bool x.a.s):=hcs 5 _ rfl;have HT:=hZ (TS.out k x hx);obtain⟨q1,q2,q3⟩:=lH.out k x hx;obtain⟨t1,t2⟩:=TL.out k hk;have m1:min x.t 64=x.t:=by omega
   have m2:max x.f 0=x.f:=by omega
   have m3:max 0 (x.t -x.f)=x.t -x.f:=by omega
   have m4:wrap64 (x.t -x.f)=x.t -x.f:=by unfold wrap64;omega
   have m5:wrap64 (tk k+(x.t -x.f))=tk k+(x.t -x.f):=by unfold wrap64;omega
   clear hcs hx;go_wp2;go_roundw
   case rel=>exact⟨k+1,by omega,by go_num,by rw[HT.out],hZ (HB.out.alloc hsz _)⟩
   case measure=>simp[intOf];omega
  ·have hkn:n=k:=by omega
   subst hkn;go_wp2;go_ret;exact⟨iR (by rw[TN.out]),HB.out⟩
end Go.Proofs.YtoogfmbojlpjaaaGreat
namespace Go.Proofs.YtoogfmbojlpjaaaGreat
structure aL where
 kind:Int
 proc:Int
 page:Int
 count:Int
 eZ:Int
 key:Int
 tagged:Bool
 draw:Int
 addr:Int
 size:Int
 value:Int
 tag:Int
instance:Inhabited aL:=⟨⟨0,0,0,0,0,0,false,0,0,0,0,0⟩⟩
structure bX where
 err:Int
 value:Int
 fault:Int
 pos:Int
deriving DecidableEq
instance:Inhabited bX:=⟨⟨0,0,0,0⟩⟩
def K8:aJ:=⟨true,0,false,0,false,0,false,0⟩
def aB (e:Int):bX:=⟨e,0,0,0⟩
def Ca (f a:Int):bX:=⟨8,0,f,a⟩
def wW (l:List aC) (K:aJ) (all:Int) (o:aL):List aC×bX:=
 if o.count<1\/64<o.count then([],aB 2)
 else if fH o.eZ≠0 then([],aB (fH o.eZ))
 else if K.tk o.key=false then([],aB 3)
 else if 64<all+o.count then([],aB 4)
 else if vB l o.count≠0 then([],aB (vB l o.count))
 else(sS l ⟨nZ l o.count o.draw,nZ l o.count o.draw+o.count,⟨o.eZ,o.key,o.tagged,false⟩⟩,⟨rJ l ⟨nZ l o.count o.draw,nZ l o.count o.draw+o.count,⟨o.eZ,o.key,o.tagged,false⟩⟩,nZ l o.count o.draw,0,0⟩)
def vI (a:eY):eY:=⟨a.r,a.k,a.g,true⟩
def q9 (r k:Int) (a:eY):eY:=⟨r,k,a.g,a.s⟩
def pY (p c:Int):Bool:=decide (0<=p)&&decide (1<=c)&&decide (c<=64)&&decide (p<=64 -c)
def aA9 (K:aJ) (o:aL):Int:=if o.kind=3 then(if fH o.eZ≠0 then fH o.eZ else if K.tk o.key=false then 3 else 0) else 0
def iK (l:List aC) (K:aJ) (o:aL):List aC×bX:=
 if pY o.page o.count=false then([],aB 2)
 else if aA9 K o≠0 then([],aB (aA9 K o))
 else if dP l o.page (o.page+o.count)≠0/\o.kind≠2 then([],aB 1)
 else if o.kind=4 then(dY l o.page (o.page+o.count) vI,aB 0)
 else if((fA o.page (o.page+o.count) l).any λx=>x.a.s)=true then([],aB 7)
 else if o.kind=2 then(sP l o.page (o.page+o.count),aB (nV l o.page (o.page+o.count)))
 else(dY l o.page (o.page+o.count) (q9 o.eZ o.key),aB (dP l o.page (o.page+o.count)))
def lK (l:List aC) (K:aJ) (o:aL):aJ×bX:=
 if o.kind=5 then(Ox K,⟨Dt K,Rb K,0,0⟩)
 else if o.kind=6 then(rD K o.key 1 false 0,aB (if iT K o.key 1 0=0/\((fA 0 64 l).any λx=>decide (x.a.k=o.key))=true then 7 else iT K o.key 1 0))
 else(rD K o.key 0 true o.eZ,aB (iT K o.key 0 o.eZ))
def iU (kind:Int):Int:=if kind=10 then 1 else if kind=12 then 4 else 2
def oK (a s:Int):Bool:=decide (0<=a)&&decide (0<=s)&&decide (s<=4096)&&decide (a<=4096 -s)
def gM (o:aL):Bool:=
 if o.tag<0\/15<o.tag then false
 else if o.kind=13 then decide (o.addr%16=0)&&decide (1<=o.count)&&decide (o.count<=256)&&oK o.addr (o.count*16)
 else decide (1<=o.size)&&decide (o.size<=4)&&oK o.addr o.size
structure mP where
 p:Int
 f:Int
 t:Int
instance:Inhabited mP:=⟨⟨0,0,0⟩⟩
def kP (e:Int):Nat->Int->List mP
 |0,_=>[]
 |f+1,a=>if a<e then⟨a/64,a -a/64*64,min e ((a/64+1)*64) -a/64*64⟩::kP e f (min e ((a/64+1)*64)) else []
def dD (addr size:Int):List mP:=kP (addr+size) 65 addr
def kJ (l:List aC) (K:aJ) (page way:Int):Int:=match dF l page with|none=>1|some a=>oZ a.r a.k K way
def aU (o:aL):Int:=if o.kind=13 then o.count*16 else o.size
end Go.Proofs.YtoogfmbojlpjaaaGreat
namespace Go.Proofs.YtoogfmbojlpjaaaGreat
open Go.ChangeShapes Go.WideShapes Go.ChangeAt Go.RowKit Go.Joins Go.Sort
theorem aGb:∀a:Fin 64,∀o:Fin 6,((a.1 ^^^ 2^o.1:Nat):Int)=eQ (a.1:Int) (o.1:Int):=by decide
theorem aDL (a b:Nat) (ha:a<9223372036854775808) (hb:b<9223372036854775808):bits .xor .i64 (a:Int) (b:Int)=((a ^^^ b:Nat):Int):=by
 have hx:a ^^^ b<2^63:=Nat.xor_lt_two_pow (by omega) (by omega);have h1:(BitVec.ofInt 64 (a:Int)).toNat=a:=by
  rw[BitVec.ofInt_natCast,BitVec.toNat_ofNat];exact Nat.mod_eq_of_lt (by omega)
 have h2:(BitVec.ofInt 64 (b:Int)).toNat=b:=by
  rw[BitVec.ofInt_natCast,BitVec.toNat_ofNat];exact Nat.mod_eq_of_lt (by omega)
 show IntKind.i64.wrap ((BitVec.ofInt 64 (a:Int) ^^^ BitVec.ofInt 64 (b:Int)).toNat:Int)=_;rw[BitVec.toNat_xor,h1,h2,IntKind.wrap_i64];omega
theorem aDR {a o:Int} (h0:0<=a) (h1:a<64) (h2:0<=o) (h3:o<6):bits .xor .i64 a (aX o)=eQ a o:=by
 obtain⟨n,rfl⟩:=Int.eq_ofNat_of_zero_le h0;obtain⟨k,rfl⟩:=Int.eq_ofNat_of_zero_le h2;have:=aGb ⟨n,by omega⟩ ⟨k,by omega⟩;rw[Dy];have h4:2^k<2^6:=Nat.pow_lt_pow_right (by omega) (by omega);rw[aDL n (2^k) (by omega) (by omega)];exact this
theorem Eo {P:Program} {f:FuncId} {args:Array Value} {w:World} {d:Nat} {os:Array Obj} {v:Value}
 (h:∀w,Calls P f args w λe w'=>e=.returned v/\w'=w):Calls P f args (grow (redrawn w d) os) λe w''=>e=.returned v/\∃p:Regrown,w''=grow (redrawn w p.d) p.os:=
 (h _).mono λ_ _ ⟨he,hw⟩=>⟨he,⟨d,os⟩,hw⟩
theorem Kg (A:Option Addr) (n c:Nat) (xs:List aH) (w:World) (B:Nat) (hz:Rw lQ 2 w B A n xs) (hf:∀x∈xs,x.fits) (hB:B<=w.heap.size) (hbig:n<=140737488355328):
 Calls Tryz.prog 168 #[.slice A n c] w λe w'=>e=.returned (.bool (kX xs))/\Below w.heap.size w w':=by
 have hln:=hz.1;have HX:=hZ (λ(i:Nat) (hi:i<n)=>(⟨xs[i]'(by omega),List.getElem?_eq_getElem _⟩:∃x,xs[i]? =some x));have jN:=hZ hln;have HF:=hZ hf;have HZ:=hZ hz;have HBAD:=hZ (V8 xs none);have aF3:=hZ (Sc xs none);have Cf:Hid (kX xs=oH none xs):=hZ rfl;generalize oH none xs=res at*;generalize kX xs=aOm at*;have HA:Hid (0<n->∃b off,A=some ⟨b,off,none⟩/\b<B):=hZ (λh=>HZ.out.open h);clear hz hln hf;go_enter Tryz.func168,Tryz.ntmps168;go_wp2;go_loopw [7] (λi wr=>∃k:Nat,k<=n/\i=.int .i64 k/\Hid (Below w.heap.size w wr)/\Hid (∀j x,j<k->xs[j]? =some x->okB x=true/\∀p,(if j=0 then none else xs[j -1]?)=some p->uC p x=true)) (λi _=>n - (intOf i).toNat)
 case atStart=>exact⟨0,by omega,rfl,hZ (Below.refl _ _),hZ (λj x hj=>absurd hj (Nat.not_lt_zero _))⟩
 case round=>
  obtain⟨k,hk,rfl,HB,HG⟩:=hrel;have hsz:=HB.out.size;by_cases hlt:k<n
  ·obtain⟨x,hx⟩:=HX.out k hlt
   obtain⟨b,off,q8,hb⟩:=HA.out (by omega);subst q8;have hcs:=(HZ.out.below (HB.out.mono hB)).at_ jD hx;have Ec:wr.cell? ⟨b,off+k*2,none⟩=some (.int .i64 x.a):=hcs 0 _ rfl;have Eb:wr.cell? ⟨b,off+k*2+1,none⟩=some (.int .i64 x.o):=hcs 1 _ rfl;have HX0:=hZ hx;have zG:=hZ (HB.out.alloc hsz (.cells #[.int .i64 x.a,.int .i64 x.o] 184));have hxf:=HF.out x (List.mem_of_getElem? hx);have aE5:∀d os,(grow (redrawn (wr.alloc (.cells #[.int .i64 x.a,.int .i64 x.o] 184)) d) os).cell? ⟨wr.heap.size,0,none⟩=some (.int .i64 x.a):=λd os=>cell_regrown (by simp[go_sem]) d os;have aE4:∀d os,(grow (redrawn (wr.alloc (.cells #[.int .i64 x.a,.int .i64 x.o] 184)) d) os).cell? ⟨wr.heap.size,1,none⟩=some (.int .i64 x.o):=λd os=>cell_regrown (by simp[go_sem]) d os;have hfit:∀ {d:Nat} {os:Array Obj},Calls Tryz.prog 176 #[.agg #[.int .i64 x.a,.int .i64 x.o]] (grow (redrawn (wr.alloc (.cells #[.int .i64 x.a,.int .i64 x.o] 184)) d) os) λe w'=>e=.returned (.bool (okB x))/\Below (grow (redrawn (wr.alloc (.cells #[.int .i64 x.a,.int .i64 x.o] 184)) d) os).heap.size (grow (redrawn (wr.alloc (.cells #[.int .i64 x.a,.int .i64 x.o] 184)) d) os) w':=λ{d os} =>aCR x hxf _;clear hcs hx;cases hok:okB x with
   |false=>
    rw[hok] at hfit;have lH:=hZ hok;clear hok hxf;go_wp2;refine wp_region_quiet_below (by kernel_rfl) (by kernel_rfl) ?_;repeat(go_big_quiet_step(first|(go_at_call 176;exact Calls.regrown_of hfit)))
    refine wpQuiet_nil ?_;intro w2 hw';obtain⟨p',hw'⟩:=hw';have hb2:Below (wr.alloc (.cells #[.int .i64 x.a,.int .i64 x.o] 184)).heap.size (wr.alloc (.cells #[.int .i64 x.a,.int .i64 x.o] 184)) w2:=by rw[hw'];exact below_regrown _ _ _
    clear hw' p';have HB2:=hZ (zG.out.trans (hb2.mono (by simp;omega)));clear aE5 aE4 hfit;clear hb2;go_wp2;go_ret;exact⟨bH (by rw[Cf.out,HBAD.out k x HX0.out (.inl lH.out)]),HB2.out⟩
   |true=>
    rw[hok] at hfit;have lH:=hZ hok;have HO6:Hid (0<=x.a/\x.a<64/\0<=x.o/\x.o<=6):=hZ (by
     obtain⟨h1,h2,_,h4⟩:=bL hok;have:=dC x.o;refine⟨h1,by omega,by omega,by omega⟩)
    clear hok hxf;cases k with
    |zero=>
     rw[Nat.zero_mul,Nat.add_zero] at Ec Eb;go_wp2;refine wp_region_quiet_below (by kernel_rfl) (by kernel_rfl) ?_;repeat(go_big_quiet_step(first|(go_at_call 176;exact Calls.regrown_of hfit)))
     refine wpQuiet_nil ?_;intro w2 hw';obtain⟨p',hw'⟩:=hw';have hb2:Below (wr.alloc (.cells #[.int .i64 x.a,.int .i64 x.o] 184)).heap.size (wr.alloc (.cells #[.int .i64 x.a,.int .i64 x.o] 184)) w2:=by rw[hw'];exact below_regrown _ _ _
     clear hw' p';have HB2:=hZ (zG.out.trans (hb2.mono (by simp;omega)));clear aE5 aE4 hfit;obtain⟨Lc,_⟩:=wO hb2;have bx0:w2.cell? ⟨wr.heap.size,0,none⟩=some (.int .i64 x.a):=by rw[Lc _ _ (by simp)];simp[go_sem]
     have bx1:w2.cell? ⟨wr.heap.size,1,none⟩=some (.int .i64 x.o):=by rw[Lc _ _ (by simp)];simp[go_sem]
     clear Lc hb2;go_wp2
     go_quiet (fail)
     go_wp2;go_roundw
     case rel=>exact⟨0+1,by omega,by go_num,hZ (HB2.out.trans (below_drewN _ _ _)),hZ (λj y hj hy=>by
      by_cases e:j=0
      ·subst e
       rw[HX0.out] at hy;cases hy;exact⟨lH.out,λq hq=>by simp at hq⟩
      ·exact HG.out j y (by omega) hy)⟩
     case measure=>simp[intOf];omega
    |succ m=>
     obtain⟨p,hp⟩:=HX.out m (by omega);have hps:=(HZ.out.below (HB.out.mono hB)).at_ jD hp;have aMz:wr.cell? ⟨b,off+m*2,none⟩=some (.int .i64 p.a):=hps 0 _ rfl;have aMy:wr.cell? ⟨b,off+m*2+1,none⟩=some (.int .i64 p.o):=hps 1 _ rfl;have aMp:∀d os,(grow (redrawn (wr.alloc (.cells #[.int .i64 x.a,.int .i64 x.o] 184)) d) os).cell? ⟨b,off+m*2,none⟩=some (.int .i64 p.a):=λd os=>cell_regrown (Lib.cell?_alloc_some _ aMz) d os;have aMo:∀d os,(grow (redrawn (wr.alloc (.cells #[.int .i64 x.a,.int .i64 x.o] 184)) d) os).cell? ⟨b,off+m*2+1,none⟩=some (.int .i64 p.o):=λd os=>cell_regrown (Lib.cell?_alloc_some _ aMy) d os;have M0:=hZ hp;obtain⟨p1,p2,p3,p4⟩:=bL (HG.out m p (by omega) hp).1;have po1:0<=p.o:=by omega
     have po2:p.o<=6:=by omega
     have hsp:=wS p.o po1 po2;obtain⟨s1,s2⟩:=I1 po1 po2;have hbw:b<wr.heap.size:=by omega
     have hm0:(0:Int)<(m:Int)+1:=by omega
     have hmn:(m:Int)<(n:Int):=by omega
     have hm1:m<n:=by omega
     have hm2:(0:Int)<=(m:Int):=by omega
     have hmw:IntKind.i64.wrap (m:Int)=(m:Int):=by rw[IntKind.wrap_i64];omega
     have HNQ:Hid (uC p x=(!(decide (x.a<p.a+aX p.o))&& !(decide (x.o<6)&&nY p ⟨eQ x.a x.o,x.o⟩))):=hZ rfl;clear hps hp p3 p4;generalize aX p.o=sp at*;by_cases h4:x.a<p.a+sp
     ·have oO:Hid (uC p x=false):=hZ (by rw[HNQ.out];simp[h4])
      clear HNQ;go_wp2;refine wp_region_quiet_below (by kernel_rfl) (by kernel_rfl) ?_;repeat(go_big_quiet_step(first|(go_at_call 176;exact Calls.regrown_of hfit)|(go_at_call 171;exact Eo hsp)))
      refine wpQuiet_nil ?_;intro w2 hw';obtain⟨p',hw'⟩:=hw';have hb2:Below (wr.alloc (.cells #[.int .i64 x.a,.int .i64 x.o] 184)).heap.size (wr.alloc (.cells #[.int .i64 x.a,.int .i64 x.o] 184)) w2:=by rw[hw'];exact below_regrown _ _ _
      clear hw' p';have HB2:=hZ (zG.out.trans (hb2.mono (by simp;omega)));clear aE5 aE4 hfit aMp aMo hsp;clear hb2;go_wp2;go_ret;exact⟨bH (by rw[Cf.out,HBAD.out (m+1) x HX0.out (.inr ⟨p,by rw[if_neg (by omega),Nat.add_sub_cancel];exact M0.out,oO.out⟩)]),HB2.out⟩
     ·have Fs:Hid (decide (x.a<p.a+sp)=false):=hZ (decide_eq_false (by omega))
      have hd4:decide (x.a<p.a+sp)=false:=decide_eq_false (by omega);go_wp2;refine wp_region_quiet_below (by kernel_rfl) (by kernel_rfl) ?_;repeat(go_big_quiet_step(first|(go_at_call 176;exact Calls.regrown_of hfit)|(go_at_call 171;exact Eo hsp)))
      refine wpQuiet_nil ?_;intro w2 hw';obtain⟨p',hw'⟩:=hw';have hb2:Below (wr.alloc (.cells #[.int .i64 x.a,.int .i64 x.o] 184)).heap.size (wr.alloc (.cells #[.int .i64 x.a,.int .i64 x.o] 184)) w2:=by rw[hw'];exact below_regrown _ _ _
      clear hw' p';have HB2:=hZ (zG.out.trans (hb2.mono (by simp;omega)));clear aE5 aE4 hfit aMp aMo hsp;obtain⟨Lc,_⟩:=wO hb2;have bx0:w2.cell? ⟨wr.heap.size,0,none⟩=some (.int .i64 x.a):=by rw[Lc _ _ (by simp)];simp[go_sem]
      have bx1:w2.cell? ⟨wr.heap.size,1,none⟩=some (.int .i64 x.o):=by rw[Lc _ _ (by simp)];simp[go_sem]
      have pc0:w2.cell? ⟨b,off+m*2,none⟩=some (.int .i64 p.a):=by rw[Lc _ _ (by simp;omega)];exact(Lib.cell?_alloc_some _ aMz)
      have pc1:w2.cell? ⟨b,off+m*2+1,none⟩=some (.int .i64 p.o):=by rw[Lc _ _ (by simp;omega)];exact(Lib.cell?_alloc_some _ aMy)
      clear Lc hb2;clear hd4 h4 s1 s2 p1 p2;by_cases h6:x.o<6
      ·obtain⟨q1,q2,q3,q4⟩:=HO6.out
       have hsx:=wS x.o q3 q4;have aIW:=aDR q1 q2 q3 h6;generalize aX x.o=sx at*;have heq:∀w,(Op.equalIn 10000 184 (.agg #[.int .i64 p.a,.int .i64 p.o]) (.agg #[.int .i64 (eQ x.a x.o),.int .i64 x.o])).run Tryz.prog w=.ok (nY p ⟨eQ x.a x.o,x.o⟩) w:=aK0 p ⟨eQ x.a x.o,x.o⟩;generalize eQ x.a x.o=bd at*;cases hq:nY p ⟨bd,x.o⟩ with
       |true=>
        rw[hq] at heq;have oO:Hid (uC p x=false):=hZ (by rw[HNQ.out,Fs.out,hq];simp[h6]);clear HNQ Fs hq q1 q2 q3 q4;go_wp2
        go_quiet (first|(go_at_call 171;exact nQ hsx))
        go_wp2;go_ret;exact⟨bH (by rw[Cf.out,HBAD.out (m+1) x HX0.out (.inr ⟨p,by rw[if_neg (by omega),Nat.add_sub_cancel];exact M0.out,oO.out⟩)]),HB2.out.trans (below_drewN _ _ _)⟩
       |false=>
        rw[hq] at heq;have oO:Hid (uC p x=true):=hZ (by rw[HNQ.out,Fs.out,hq];simp);clear HNQ Fs hq q1 q2 q3 q4;go_wp2
        go_quiet (first|(go_at_call 171;exact nQ hsx))
        clear hmw;go_wp2;go_roundw
        case rel=>exact⟨m+1+1,by omega,by go_num,hZ (HB2.out.trans (below_drewN _ _ _)),hZ (λj y hj hy=>by
         by_cases e:j=m+1
         ·subst e
          rw[HX0.out] at hy;cases hy;exact⟨lH.out,λq hq=>by rw[if_neg (by omega),Nat.add_sub_cancel,M0.out] at hq;cases hq;exact oO.out⟩
         ·exact HG.out j y (by omega) hy)⟩
        case measure=>simp[intOf];omega
      ·have oO:Hid (uC p x=true):=hZ (by rw[HNQ.out,Fs.out];simp[h6])
       have hd6:decide (x.o<6)=false:=decide_eq_false h6;clear HNQ Fs;go_wp2
       go_quiet (fail)
       clear hmw;go_wp2;go_roundw
       case rel=>exact⟨m+1+1,by omega,by go_num,hZ (HB2.out.trans (below_drewN _ _ _)),hZ (λj y hj hy=>by
        by_cases e:j=m+1
        ·subst e
         rw[HX0.out] at hy;cases hy;exact⟨lH.out,λq hq=>by rw[if_neg (by omega),Nat.add_sub_cancel,M0.out] at hq;cases hq;exact oO.out⟩
        ·exact HG.out j y (by omega) hy)⟩
       case measure=>simp[intOf];omega
  ·have hkn:n=k:=by omega
   subst hkn;go_wp2;go_ret;exact⟨bH (by rw[Cf.out,aF3.out (λj x hj hx=>HG.out j x (by rw[jN.out] at hj;exact hj) hx)]),HB.out⟩
end Go.Proofs.YtoogfmbojlpjaaaGreat
namespace Go.Proofs.YtoogfmbojlpjaaaGreat
open Go.ChangeShapes Go.WideShapes Go.ChangeAt Go.RowKit Go.Joins
abbrev bX.v (a:bX):Value:=.agg #[.int .i64 a.err,.int .i64 a.value,.int .i64 a.fault,.int .i64 a.pos]
abbrev aL.v (o:aL):Value:=.agg #[.int .i64 o.kind,.int .i64 o.proc,.int .i64 o.page,.int .i64 o.count,.int .i64 o.eZ,.int .i64 o.key,.bool o.tagged,.int .i64 o.draw,.int .i64 o.addr,.int .i64 o.size,.int .i64 o.value,.int .i64 o.tag]
def fO (o:aL):List Value:=[.int .i64 o.kind,.int .i64 o.proc,.int .i64 o.page,.int .i64 o.count,.int .i64 o.eZ,.int .i64 o.key,.bool o.tagged,.int .i64 o.draw,.int .i64 o.addr,.int .i64 o.size,.int .i64 o.value,.int .i64 o.tag]
def aL.fits (o:aL):Prop:=eG o.kind/\eG o.proc/\eG o.page/\eG o.count/\eG o.eZ/\eG o.key/\eG o.draw/\eG o.addr/\eG o.size/\eG o.value/\eG o.tag
theorem uY (e:Int) (w:World):Calls Tryz.prog 52 #[.int .i64 e] w λx w'=>x=.returned (.agg #[.int .i64 e,.int .i64 0,.int .i64 0,.int .i64 0])/\Below w.heap.size w w':=by
 go_enter Tryz.func52,Tryz.ntmps52;go_wp2;try simp only[Exit.inBlock,Exit.then]
 exact bodyPost_ret (v:=.agg #[.int .i64 e,.int .i64 0,.int .i64 0,.int .i64 0]) (by simp[results,Tryz.results52,go_sem]) rfl ⟨rfl,(Below.refl _ _).alloc (nR _) _⟩
theorem Oc (p c:Int) (hp:eG p) (hc:eG c) (w:World):Calls Tryz.prog 97 #[.int .i64 p,.int .i64 c] w λx w'=>x=.returned (.bool (pY p c))/\w'=w:=by
 unfold eG at hp hc;have HS:Hid (pY p c=(decide (0<=p)&&decide (1<=c)&&decide (c<=64)&&decide (p<=64 -c))):=hZ rfl;generalize pY p c=r at*;by_cases h1:0<=p
 ·by_cases h2:1<=c
  ·by_cases h3:c<=64
   ·have hd:∀b:Bool,b=decide (p<=64 -c)->r=b:=λb e=>by rw[HS.out,e,decide_eq_true h1,decide_eq_true h2,decide_eq_true h3];rfl
    have HD:=hZ hd;clear hd;go_enter Tryz.func97,Tryz.ntmps97;go_wp2;go_ret;exact⟨bH (HD.out _ rfl).symm,rfl⟩
   ·have HR:Hid (r=false):=hZ (by rw[HS.out,decide_eq_false h3];simp)
    go_enter Tryz.func97,Tryz.ntmps97;go_wp2;go_ret;exact⟨bH HR.out.symm,rfl⟩
  ·have HR:Hid (r=false):=hZ (by rw[HS.out,decide_eq_false h2];simp)
   go_enter Tryz.func97,Tryz.ntmps97;go_wp2;go_ret;exact⟨bH HR.out.symm,rfl⟩
 ·have HR:Hid (r=false):=hZ (by rw[HS.out,decide_eq_false h1];simp)
  go_enter Tryz.func97,Tryz.ntmps97;go_wp2;go_ret;exact⟨bH HR.out.symm,rfl⟩
theorem aAW (p c:Int) (hp:eG p) (hc:eG c) (w:World):Calls Tryz.prog 130 #[.int .i64 p,.int .i64 c] w λx w'=>x=.returned (.bool (oK p c))/\w'=w:=by
 unfold eG at hp hc;have HS:Hid (oK p c=(decide (0<=p)&&decide (0<=c)&&decide (c<=4096)&&decide (p<=4096 -c))):=hZ rfl;generalize oK p c=r at*;by_cases h1:0<=p
 ·by_cases h2:0<=c
  ·by_cases h3:c<=4096
   ·have hd:∀b:Bool,b=decide (p<=4096 -c)->r=b:=λb e=>by rw[HS.out,e,decide_eq_true h1,decide_eq_true h2,decide_eq_true h3];rfl
    have HD:=hZ hd;clear hd;go_enter Tryz.func130,Tryz.ntmps130;go_wp2;go_ret;exact⟨bH (HD.out _ rfl).symm,rfl⟩
   ·have HR:Hid (r=false):=hZ (by rw[HS.out,decide_eq_false h3];simp)
    go_enter Tryz.func130,Tryz.ntmps130;go_wp2;go_ret;exact⟨bH HR.out.symm,rfl⟩
  ·have HR:Hid (r=false):=hZ (by rw[HS.out,decide_eq_false h2];simp)
   go_enter Tryz.func130,Tryz.ntmps130;go_wp2;go_ret;exact⟨bH HR.out.symm,rfl⟩
 ·have HR:Hid (r=false):=hZ (by rw[HS.out,decide_eq_false h1];simp)
  go_enter Tryz.func130,Tryz.ntmps130;go_wp2;go_ret;exact⟨bH HR.out.symm,rfl⟩
end Go.Proofs.YtoogfmbojlpjaaaGreat
namespace Go.Proofs.YtoogfmbojlpjaaaGreat
theorem map_ok {l:List aC} {K:aJ} {all:Int} {o:aL} (h:(wW l K all o).2.err=0):
 (wW l K all o).1=sS l ⟨nZ l o.count o.draw,nZ l o.count o.draw+o.count,⟨o.eZ,o.key,o.tagged,false⟩⟩/\rJ l ⟨nZ l o.count o.draw,nZ l o.count o.draw+o.count,⟨o.eZ,o.key,o.tagged,false⟩⟩=0/\fH o.eZ=0/\K.tk o.key=true/\all+o.count<=64/\vB l o.count=0/\
 1<=o.count/\o.count<=64/\(wW l K all o).2=⟨0,nZ l o.count o.draw,0,0⟩:=by
 unfold wW at h⊢;by_cases h1:o.count<1\/64<o.count
 ·rw[if_pos h1] at h;simp[aB] at h
 rw[if_neg h1] at h⊢;by_cases h2:fH o.eZ≠0
 ·rw[if_pos h2] at h;exact absurd h h2
 rw[if_neg h2] at h⊢;by_cases h3:K.tk o.key=false
 ·rw[if_pos h3] at h;simp[aB] at h
 rw[if_neg h3] at h⊢;by_cases h4:64<all+o.count
 ·rw[if_pos h4] at h;simp[aB] at h
 rw[if_neg h4] at h⊢;by_cases h5:vB l o.count≠0
 ·rw[if_pos h5] at h;exact absurd h h5
 rw[if_neg h5] at h⊢;simp only[ne_eq,Decidable.not_not] at h2 h5;have hE:rJ l ⟨nZ l o.count o.draw,nZ l o.count o.draw+o.count,⟨o.eZ,o.key,o.tagged,false⟩⟩=0:=h;exact⟨rfl,hE,h2,by simpa using h3,by omega,h5,by omega,by omega,by rw[hE]⟩
theorem aBK {l:List aC} {K:aJ} {o:aL} (hk:o.kind=2\/o.kind=3\/o.kind=4) (h:(iK l K o).2.err=0):
 (iK l K o).2=aB 0/\((o.kind=2/\nV l o.page (o.page+o.count)=0/\(iK l K o).1=sP l o.page (o.page+o.count)/\∀q t,Has l q t->o.page<=q->q<o.page+o.count->t.s=false)\/
 (o.kind=3/\fH o.eZ=0/\K.tk o.key=true/\dP l o.page (o.page+o.count)=0/\(iK l K o).1=dY l o.page (o.page+o.count) (q9 o.eZ o.key)/\∀q t,Has l q t->o.page<=q->q<o.page+o.count->t.s=false)\/
 (o.kind=4/\dP l o.page (o.page+o.count)=0/\(iK l K o).1=dY l o.page (o.page+o.count) vI)):=by
 unfold iK at h⊢;by_cases h1:pY o.page o.count=false
 ·rw[if_pos h1] at h;simp[aB] at h
 rw[if_neg h1] at h⊢;by_cases h2:aA9 K o≠0
 ·rw[if_pos h2] at h;exact absurd h h2
 rw[if_neg h2] at h⊢;by_cases h3:dP l o.page (o.page+o.count)≠0/\o.kind≠2
 ·rw[if_pos h3] at h;simp[aB] at h
 rw[if_neg h3] at h⊢;by_cases h4:o.kind=4
 ·rw[if_pos h4] at h⊢
  refine⟨rfl,.inr (.inr ⟨h4,?_,rfl⟩)⟩;by_cases e:dP l o.page (o.page+o.count)=0
  ·exact e
  ·exact absurd ⟨e,by omega⟩ h3
 rw[if_neg h4] at h⊢;by_cases h5:((fA o.page (o.page+o.count) l).any λx=>x.a.s)=true
 ·rw[if_pos h5] at h;simp[aB] at h
 rw[if_neg h5] at h⊢;have hs:∀q t,Has l q t->o.page<=q->q<o.page+o.count->t.s=false:=by
  intro q t hq q1 q2;obtain⟨x,hx,_,_,e⟩:=Ex.2 ⟨hq,q1,q2⟩;cases hts:t.s with
  |false=>rfl
  |true=>
   refine absurd ?_ h5;rw[List.any_eq_true];exact⟨x,hx,by rw[e];exact hts⟩
 by_cases h6:o.kind=2
 ·rw[if_pos h6] at h⊢
  have hE:nV l o.page (o.page+o.count)=0:=h;exact⟨by rw[hE],.inl ⟨h6,hE,rfl,hs⟩⟩
 ·rw[if_neg h6] at h⊢
  have h7:o.kind=3:=by omega
  have hE:dP l o.page (o.page+o.count)=0:=h;simp only[ne_eq,Decidable.not_not] at h2;unfold aA9 at h2;rw[if_pos h7] at h2;by_cases h8:fH o.eZ≠0
  ·rw[if_pos h8] at h2;exact absurd h2 h8
  rw[if_neg h8] at h2;by_cases h9:K.tk o.key=false
  ·rw[if_pos h9] at h2;simp at h2
  ·exact⟨by rw[hE],.inr (.inl ⟨h7,by simpa using h8,by simpa using h9,hE,rfl,hs⟩)⟩
theorem Ua:∀(f:Nat) (e a:Int),0<=a->e<=4096->∀t∈kP e f a,0<=t.p/\t.p<64/\0<=t.f/\t.f<t.t/\t.t<=64/\a<=t.p*64+t.f/\t.p*64+t.t<=e
 |0,e,a,h0,h1,t,ht=>by cases ht
 |f+1,e,a,h0,h1,t,ht=>by
  unfold kP at ht;by_cases hl:a<e
  ·rw[if_pos hl] at ht
   rcases List.mem_cons.1 ht with rfl|ht
   ·simp only;omega
   ·have:=Ua f e (min e ((a/64+1)*64)) (by omega) h1 t ht
    omega
  ·rw[if_neg hl] at ht;cases ht
theorem Ba {o:aL} (h:gM o=true):0<=o.tag/\o.tag<=15/\0<=o.addr/\1<=aU o/\o.addr+aU o<=4096/\(o.kind=13->o.addr%16=0/\aU o%16=0)/\(o.kind≠13->aU o=o.size/\o.size<=4):=by
 unfold gM at h;unfold aU;split at h
 ·cases h
 ·split at h
  ·rename_i h1 h2
   rw[if_pos h2];simp[oK] at h;omega
  ·rename_i h1 h2
   rw[if_neg h2];simp[oK] at h;omega
end Go.Proofs.YtoogfmbojlpjaaaGreat
namespace Go.Proofs.YtoogfmbojlpjaaaGreat
open Go.ChangeShapes Go.WideShapes Go.ChangeAt Go.RowKit Go.Joins
theorem uZ (x:aL):(fO x).length=12:=rfl
theorem Jg (x:aL):∀u∈fO x,u.oneCell'=true:=by simp[fO,Value.oneCell']
theorem aNr (xs:List aL):∀u∈xs.flatMap fO,u.oneCell'=true:=by
 intro u hu;obtain⟨x,_,h⟩:=List.mem_flatMap.1 hu;exact Jg x u h
theorem Pf:(Tryz.prog.info? 26).map (λi=>(i.zero,i.size,i.bytes))=some (some (.agg #[.int .i64 0,.int .i64 0,.int .i64 0,.int .i64 0,.int .i64 0,.int .i64 0,.bool false,.int .i64 0,.int .i64 0,.int .i64 0,.int .i64 0,.int .i64 0]),12,96):=by kernel_rfl
end Go.Proofs.YtoogfmbojlpjaaaGreat
