/- Lemmas. -/
import Derived.Shelf.SlSortCmp.NoneTotal
import Derived.Test.YtoogfmbojlpjaaaGreatQ13
import Derived.Test.YtoogfmbojlpjaaaGreatQ14
import Derived.Test.YtoogfmbojlpjaaaGreatQ12
import Derived.Test.YtoogfmbojlpjaaaGreatQ8
import Derived.ArgAppend
import Derived.BigQuiet
import Derived.ChangeOld
import Derived.Deep.RegionLaw
import Derived.Deep.Slices
import Derived.Handy
import Derived.Laws.BitsAllLaws
import Derived.Laws.BitsLemmas
import Derived.Laws.CopyOwn
import Derived.Laws.MakeOwn
import Derived.Laws.OwnMore
import Derived.Laws.StructEq
import Derived.Lib.Hide
import Derived.Lib.QuietBelow
import Derived.Lib.SliceRun
import Derived.Lib.SmallJoins
import Derived.OpenShut
import Derived.OwnWalk
import Derived.ProofKit
import Derived.RowKit3
import Derived.Shelf.Abstract
import Derived.Shelf.GgSortFunc.RowK
import Derived.Shelf.SlSortCmp.WholeK
import Derived.ShutString
import Derived.Test.YtoogfmbojlpjaaaGreatRows
import Derived.WalkKit
import Derived.WalkLawsBesides
import Derived.WalkSpells
import Derived.Test.YtoogfmbojlpjaaaGreatQ6
import Derived.Test.YtoogfmbojlpjaaaGreatQA
set_option maxRecDepth 100000
set_option maxHeartbeats 32000000
set_option linter.unusedVariables false
set_option linter.unusedSimpArgs false
namespace Go.Proofs.YtoogfmbojlpjaaaGreat
open Go.Shelf Go.ChangeShapes Go.WideShapes Go.ChangeAt Go.RowKit Go.Joins Go.Sort
def Yn:Type:= {x:aH//0<=x.a/\x.a<=64}
instance:Inhabited Yn:=⟨⟨default,by decide,by decide⟩⟩
def Vw (y:Yn):aH:=y.1
def aBa (y:Yn):List Value:=lQ y.1
def aDb (x y:Yn):Int:=x.1.a -y.1.a
theorem ltK (x y:Yn):ltOf aDb x y=decide (x.1.a<y.1.a):=by
 unfold ltOf aDb;exact decide_eq_decide.2 (by omega)
theorem aNV:SWO (ltOf aDb) where
 irrefl x:=by rw[ltK];simp
 trans x y z h1 h2:=by rw[ltK] at*;simp at*;omega
 ntrans x y z h1 h2:=by rw[ltK] at*;simp at*;omega
theorem aNx (x y:aH) (hx:0<=x.a/\x.a<=64) (hy:0<=y.a/\y.a<=64) (W:World):Calls Tryz.prog 173 #[.agg #[.int .i64 x.a,.int .i64 x.o],.agg #[.int .i64 y.a,.int .i64 y.o]] W λe w'=>e=.returned (.int .i64 (x.a -y.a))/\∃q os',w'=grow (W.drewN q) os':=by
 obtain⟨h1,h2⟩:=hx;obtain⟨h3,h4⟩:=hy;go_enter Tryz.func173,Tryz.ntmps173;go_wp2;go_ret;exact⟨iR (by first|rfl|(unfold wrap64;omega)),0,_,by rw[alloc_eq_grow,alloc_eq_grow,grow_grow];rfl⟩
theorem aOd (blk off size:Nat) (w:World):CmpLays Tryz.prog 173 #[] aBa 2 aDb blk off size w:=
 λ_ _ _ _ x y=>aNx x.1 y.1 x.2 y.2 _
theorem Yu (v:Value) (xs:List aH) (w:World) (base:Nat) (h:Os lQ 2 184 w base v xs) (hx:∀x∈xs,0<=x.a/\x.a<=64) (hn:xs.length<=1000000) (hb:base<=w.heap.size):
 Calls Tryz.prog 172 #[v,.func (.func 173) #[] #[]] w λe w'=>e=.returned (.tuple #[])/\∃ys,ys.Perm xs/\(ys.Pairwise λx y=>x.a<=y.a)/\Os lQ 2 184 w' base v ys/\Go.RowKit.Below base w w':=by
 have hh:=h;obtain⟨h1,⟨rfl,h0⟩|⟨g,cap,cur,rfl,hg,hgh,_⟩⟩:=h
 ·refine(AnyF.slices_SortFunc_none aKg none 0 _ w).mono ?_
  rintro e w' ⟨rfl,rfl⟩;exact⟨rfl,xs,List.Perm.refl _,by rw[List.eq_nil_of_length_eq_zero h0];exact List.Pairwise.nil,hh,Go.RowKit.Below.refl _ _⟩
 ·obtain⟨d,hd⟩:∃d:Array Yn,d.toList.map Vw=xs:=⟨(xs.attachWith (λx=>0<=x.a/\x.a<=64) hx).toArray,List.attachWith_map_subtype_val hx⟩
  have hds:d.size=xs.length:=by rw[<-hd];simp
  have hH:=aB3 (β:=Yn) (enc:=aBa) jD (by decide) Vw (λ_=>rfl) hh d hd;have hc:=AnyQ.slices_SortFunc (α:=Yn) aKg 2 Tryz.isAgg184 Tryz.sizeOf184 aBa (λ_=>rfl) (λx=>D9 x.1) aDb aNV 173 #[] g 0 cap d w (enters_of Tryz.func173 (by kernel_rfl) rfl) (aOd _ _ _ w) hH (kM hgh) (by rw[hds];omega);rw[hds] at hc;refine Calls.mono hc ?_;rintro e w' ⟨rfl,d',n,os,hp,hs,rfl⟩;have hsz:d'.size=xs.length:=by rw[<-hds];exact hp.1
  have hso:=aAs (β:=Yn) (enc:=aBa) jD (by decide) Vw (λ_=>rfl) hh d' hsz n os;refine⟨rfl,d'.toList.map Vw,?_,?_,hso.1,hso.2⟩
  ·have:=(aAn (by rw[hds];exact hp)).map Vw
   rwa[hd] at this
  ·have hs2:=Sa (d:=d') (by rw[hsz];exact hs)
   rw[List.pairwise_map];refine hs2.imp λ{a b} h=> ?_;rw[ltK] at h;simp at h;exact h
end Go.Proofs.YtoogfmbojlpjaaaGreat
namespace Go.Proofs.YtoogfmbojlpjaaaGreat
open Go.ChangeShapes Go.WideShapes Go.ChangeAt Go.RowKit Go.Joins Go.Sort
theorem Os.Og {α:Type} {f:α->List Value} {sz:Nat} {T:TypeId} {w:World} {base:Nat} {v:Value} {xs:List α} (h:Os f sz T w base v xs) {p:Addr} (hp:p.block<base) (u:Value):Os f sz T (w.setCell p u) base v xs:=by
 obtain⟨h1,h|⟨g,cap,cur,e,hg,hh,hn,hm,hz,hx⟩⟩:=h
 ·exact⟨h1,.inl h⟩
 ·refine⟨h1,.inr ⟨g,cap,cur,e,hg,?_,hn,hm,hz,hx⟩⟩
  rw[World.setCell];simp only[Array.getElem?_modify];rw[if_neg (by omega)];exact hh
theorem aEq:∀ {l:List aH},(l.length:Int)<=aBB l
 | []=>by simp[aBB]
 |x::l=>by
  have:=aEq (l:=l);have:=dC x.o;simp only[aBB,List.map_cons,List.sum_cons,List.length_cons] at*;omega
theorem aHL (p:Nat->Bool):∀n:Nat,cnt p n<=n
 |0=>by simp[cnt]
 |n+1=>by
  have:=aHL p n;unfold cnt;split<;>omega
theorem Ol {l:List aH} (h:Rp l):l.length<=64:=by
 have h1:=aEq (l:=l);have h2:=aEG h;have h3:=aHL (kC l) 64;omega
def tO (xs:List aH) (ord:Int) (k i:Nat) (b:aH):Prop:=xs[i]? =some b/\i<k/\ord<=b.o/\∀j c,j<k->xs[j]? =some c->ord<=c.o->b.o<=c.o/\(j<i->b.o<c.o)
def wB (xs:List aH) (ord:Int) (k:Nat):Prop:=∀j c,j<k->xs[j]? =some c->c.o<ord
theorem wB.more {xs:List aH} {ord:Int} {k:Nat} {x:aH} (h:wB xs ord k) (hx:xs[k]? =some x) (hl:x.o<ord):wB xs ord (k+1):=λj c hj hc=>by
 by_cases e:j=k
 ·subst e;rw[hx] at hc;cases hc;exact hl
 ·exact h j c (by omega) hc
theorem wB.first {xs:List aH} {ord:Int} {k:Nat} {x:aH} (h:wB xs ord k) (hx:xs[k]? =some x) (hl:ord<=x.o):tO xs ord (k+1) k x:=⟨hx,by omega,hl,λj c hj hc ho=>by
 by_cases e:j=k
 ·subst e;rw[hx] at hc;cases hc;exact⟨Int.le_refl _,λh=>by omega⟩
 ·have:=h j c (by omega) hc;omega⟩
theorem tO.keep {xs:List aH} {ord:Int} {k i:Nat} {x b:aH} (h:tO xs ord k i b) (hx:xs[k]? =some x) (hl:x.o<ord\/b.o<=x.o):tO xs ord (k+1) i b:=⟨h.1,by have:=h.2.1;omega,h.2.2.1,λj c hj hc ho=>by
 by_cases e:j=k
 ·subst e;rw[hx] at hc;cases hc
  have:=h.2.1;exact⟨by omega,λh=>by omega⟩
 ·exact h.2.2.2 j c (by omega) hc ho⟩
theorem tO.take {xs:List aH} {ord:Int} {k i:Nat} {x b:aH} (h:tO xs ord k i b) (hx:xs[k]? =some x) (ho:ord<=x.o) (hl:x.o<b.o):tO xs ord (k+1) k x:=⟨hx,by omega,ho,λj c hj hc hoc=>by
 by_cases e:j=k
 ·subst e;rw[hx] at hc;cases hc;exact⟨Int.le_refl _,λh=>by omega⟩
 ·have:=(h.2.2.2 j c (by omega) hc hoc).1;exact⟨by omega,λ_=>by omega⟩⟩
theorem tO.all {xs:List aH} {ord:Int} {i:Nat} {b:aH} (h:tO xs ord xs.length i b):aCm xs ord i b:=⟨h.1,h.2.2.1,λj c hc ho=>h.2.2.2 j c (List.getElem?_eq_some_iff.1 hc).1 hc ho⟩
theorem wB.all {xs:List aH} {ord:Int} (h:wB xs ord xs.length):∀c∈xs,c.o<ord:=λc hc=>by
 obtain⟨j,hj⟩:=List.getElem?_of_mem hc;exact h j c (List.getElem?_eq_some_iff.1 hj).1 hj
theorem aBz (l:List aH) (ord:Int):bQ l ord=
 if kX l then(if 0<=ord/\ord<=6 then(match Ls l ord with
  |none=>(([],0,4):List aH×Int×Int)
  |some b=>(takeC l b.a ord,b.a,0)) else([],0,2)) else([],0,1):=rfl
def aNP (w:World) (r:List aH×Int×Int) (e:Ending) (w':World):Prop:=∃v,e=.returned (.tuple #[v,.int .i64 r.2.1,.int .i64 r.2.2])/\Os lQ 2 184 w' w.heap.size v r.1/\Below w.heap.size w w'
def He (w:World) (a:Addr):Int:=match w.cell? a with|some (.int _ z)=>z|_=>0
theorem Lr {w:World} {a:Addr} {k:IntKind} {z:Int} (h:w.cell? a=some (.int k z)):He w a=z:=by unfold He;rw[h]
theorem aIe (A:Option Addr) (n c:Nat) (xs:List aH) (ord:Int) (aPz:eG ord) (w:World) (B:Nat) (hz:Rw lQ 2 w B A n xs) (hf:∀x∈xs,x.fits) (hB:B<=w.heap.size) (hbig:n<=140737488355328):
 Calls Tryz.prog 151 #[.slice A n c,.int .i64 ord] w (aNP w (bQ xs ord)):=by
 have hright:=Kg A n c xs w B hz hf hB hbig;have rW:=hZ (aBz xs ord);have HZ:=hZ hz;cases hr:kX xs with
 |false=>
  rw[hr] at hright;have aP:Hid (bQ xs ord=([],0,1)):=hZ (by rw[rW.out,hr];rfl);clear rW hz hf hr;generalize bQ xs ord=rs at*;go_enter Tryz.func151,Tryz.ntmps151;go_wp2_with(go_at_call 168;refine hright.mono ?_;rintro e w1 ⟨rfl,hb1⟩)
  go_ret3
  exact⟨_,by rw[aP.out];rfl,by rw[aP.out];exact Os.nil,hb1⟩
 |true=>
  rw[hr] at hright;have Qu:=hZ (wU hr);by_cases ho1:ord<0
  ·have aP:Hid (bQ xs ord=([],0,2)):=hZ (by rw[rW.out,hr,if_pos rfl,if_neg (by omega)])
   clear rW hz hf hr;generalize bQ xs ord=rs at*;go_enter Tryz.func151,Tryz.ntmps151;go_wp2_with(go_at_call 168;refine hright.mono ?_;rintro e w1 ⟨rfl,hb1⟩)
   go_ret3
   exact⟨_,by rw[aP.out];rfl,by rw[aP.out];exact Os.nil,hb1⟩
  by_cases ho2:6<ord
  ·have aP:Hid (bQ xs ord=([],0,2)):=hZ (by rw[rW.out,hr,if_pos rfl,if_neg (by omega)])
   clear rW hz hf hr;generalize bQ xs ord=rs at*;go_enter Tryz.func151,Tryz.ntmps151;go_wp2_with(go_at_call 168;refine hright.mono ?_;rintro e w1 ⟨rfl,hb1⟩)
   go_ret3
   exact⟨_,by rw[aP.out];rfl,by rw[aP.out];exact Os.nil,hb1⟩
  have Cq:n<=64:=by rw[<-hz.1];exact Ol Qu.out
  have jN:=hZ hz.1;have HT1:Hid (wB xs ord n->bQ xs ord=([],0,4)):=hZ (λh=>by
   rw[rW.out,hr,if_pos rfl,if_pos ⟨by omega,by omega⟩,aHR (wB.all (by rw[jN.out];exact h))])
  have HT2:Hid (∀i b,tO xs ord n i b->bQ xs ord=(takeC xs b.a ord,b.a,0)):=hZ (λi b h=>by
   have h':aCm xs ord i b:=tO.all (by rw[jN.out];exact h);have:b.o<=6:=by have:=bL (Qu.out.1 b (List.mem_of_getElem? h.1));omega
   rw[rW.out,hr,if_pos rfl,if_pos ⟨by omega,by omega⟩,aL2 this h'])
  have HX:=hZ (λ(i:Nat) (hi:i<n)=>(⟨xs[i]'(by rw[hz.1];exact hi),List.getElem?_eq_getElem _⟩:∃x,xs[i]? =some x));have HA:Hid (0<n->∃b off,A=some ⟨b,off,none⟩/\b<B):=hZ (λh=>HZ.out.open h);clear rW hz hf hr;generalize bQ xs ord=rs at*;go_enter Tryz.func151,Tryz.ntmps151;go_wp2_with(go_at_call 168;refine hright.mono ?_;rintro e w1 ⟨rfl,hb1⟩)
  have HB1:=hZ hb1;clear hb1 hright;go_loopw [7,23] (λv7 i wr=>∃k:Nat,k<=n/\i=.int .i64 k/\Hid (Below w.heap.size w wr)/\((v7=.int .i64 (-1)/\Hid (wB xs ord k))\/∃(i:Nat) (b:aH),v7=.int .i64 i/\Hid (tO xs ord k i b)/\i<k)) (λ_ i _=>n - (intOf i).toNat)
  case atStart=>exact⟨0,by omega,rfl,HB1,.inl ⟨rfl,hZ (λj c hj=>absurd hj (Nat.not_lt_zero _))⟩⟩
  case round=>
   obtain⟨k,hk,rfl,HB,hst⟩:=hrel;have hsz:=HB.out.size;by_cases hlt:k<n
   ·obtain⟨x,hx⟩:=HX.out k hlt
    obtain⟨b,off,q8,hb⟩:=HA.out (by omega);subst q8;have hcs:=(HZ.out.below (HB.out.mono hB)).at_ jD hx;have Ec:wr.cell? ⟨b,off+k*2,none⟩=some (.int .i64 x.a):=hcs 0 _ rfl;have Eb:wr.cell? ⟨b,off+k*2+1,none⟩=some (.int .i64 x.o):=hcs 1 _ rfl;have HX0:=hZ hx;have zG:=hZ (λq=>(HB.out.alloc hsz (.cells #[.int .i64 x.a,.int .i64 x.o] 184)).trans (below_drewN w.heap.size _ q));clear hcs hx;by_cases hxo:x.o<ord
    ·have hd:decide (ord<=x.o)=false:=decide_eq_false (by omega)
     rcases hst with⟨rfl,HN⟩|⟨i,bb,rfl,HU,hik⟩
     ·go_wp2
      go_quiet (fail)
      go_wp2;go_roundw
      case rel=>exact⟨k+1,by omega,by go_num,hZ (zG.out _),.inl ⟨rfl,hZ (HN.out.more HX0.out hxo)⟩⟩
      case measure=>simp[intOf];omega
     ·go_wp2
      go_quiet (fail)
      go_wp2;go_roundw
      case rel=>exact⟨k+1,by omega,by go_num,hZ (zG.out _),.inr ⟨i,bb,rfl,hZ (HU.out.keep HX0.out (.inl hxo)),by omega⟩⟩
      case measure=>simp[intOf];omega
    ·have aIX:ord<=x.o:=by omega
     have hd:decide (ord<=x.o)=true:=decide_eq_true aIX;rcases hst with⟨rfl,HN⟩|⟨i,bb,rfl,HU,hik⟩
     ·go_wp2
      go_quiet (fail)
      go_wp2;go_roundw
      case rel=>exact⟨k+1,by omega,by go_num,hZ (zG.out _),.inr ⟨k,x,by go_num,hZ (HN.out.first HX0.out aIX),by omega⟩⟩
      case measure=>simp[intOf];omega
     ·have hcb:=(HZ.out.below (HB.out.mono hB)).at_ jD HU.out.1
      have bc1:wr.cell? ⟨b,off+i*2+1,none⟩=some (.int .i64 bb.o):=hcb 1 _ rfl;have hin:(i:Int)<(n:Int):=by omega
      have hi0:(0:Int)<=(i:Int):=by omega
      have hin2:i<n:=by omega
      have aOO:decide ((i:Int)<0)=false:=decide_eq_false (by omega);have hbw:b<wr.heap.size:=by omega
      clear hcb;by_cases hbo:x.o<bb.o
      ·have hd2:decide (x.o<bb.o)=true:=decide_eq_true hbo
       go_wp2
       go_quiet (fail)
       go_wp2;go_roundw
       case rel=>exact⟨k+1,by omega,by go_num,hZ (zG.out _),.inr ⟨k,x,by go_num,hZ (HU.out.take HX0.out aIX hbo),by omega⟩⟩
       case measure=>simp[intOf];omega
      ·have hd2:decide (x.o<bb.o)=false:=decide_eq_false hbo
       go_wp2
       go_quiet (fail)
       go_wp2;go_roundw
       case rel=>exact⟨k+1,by omega,by go_num,hZ (zG.out _),.inr ⟨i,bb,rfl,hZ (HU.out.keep HX0.out (.inr (by omega))),by omega⟩⟩
       case measure=>simp[intOf];omega
   ·have hkn:k=n:=by omega
    subst hkn;rcases hst with⟨rfl,HN⟩|⟨i,bb,rfl,HU,hik⟩
    ·go_wp2
     go_ret3
     exact⟨_,by rw[HT1.out HN.out];rfl,by rw[HT1.out HN.out];exact Os.nil,HB.out⟩
    ·have aP:=hZ (HT2.out i bb HU.out)
     have HXI:=hZ HU.out.1;have HUO:=hZ HU.out.2.2.1;clear HT1 HT2 HU;obtain⟨b,off,q8,hb⟩:=HA.out (by omega);subst q8;have hcb:=(HZ.out.below (HB.out.mono hB)).at_ jD HXI.out;have bc0:wr.cell? ⟨b,off+i*2,none⟩=some (.int .i64 bb.a):=hcb 0 _ rfl;have bc1:wr.cell? ⟨b,off+i*2+1,none⟩=some (.int .i64 bb.o):=hcb 1 _ rfl;have hin:(i:Int)<(k:Int):=by omega
     have hi0:(0:Int)<=(i:Int):=by omega
     have aOO:decide ((i:Int)<0)=false:=decide_eq_false (by omega);have hbw:b<wr.heap.size:=by omega
     obtain⟨wo,hwo⟩:∃wo,wo=wr:=⟨_,rfl⟩;subst hwo;have zG:=hZ (HB.out.alloc hsz (.cells #[.int .i64 bb.a,.int .i64 bb.o] 184));have Ps:=aEK (some ⟨b,off,none⟩) k c xs (wo.alloc (.cells #[.int .i64 bb.a,.int .i64 bb.o] 184)) B (HZ.out.below (zG.out.mono hB)) (by simp;omega) (by omega);have hlx:i<xs.length:=by rw[jN.out];exact hik
     have aPE:xs.length<=64:=by rw[jN.out];exact Cq
     have oN:=hZ (Xz.start Qu.out HXI.out);have aF1:Hid (wo.heap.size+1=(wo.alloc (.cells #[.int .i64 bb.a,.int .i64 bb.o] 184)).heap.size):=hZ (by simp);have aOW:bb.o<=6:=by have:=bL (Qu.out.1 bb (List.mem_of_getElem? HXI.out));omega
     clear hcb;go_wp2_with(first
      |(go_at_call 169
        refine(aC4 v2 xs i hlx w2 (wo.heap.size+1) rX.out (by have:=HB2.out.size;have:=aF1.out;omega) (by omega)).mono ?_;rintro e w3 ⟨v3,rfl,ho3,hb3⟩)
      |(go_at_call 170
        refine Ps.mono ?_;rintro e w2 ⟨v2,rfl,ho2,hb2⟩;have rX:Hid (Os lQ 2 184 w2 (wo.heap.size+1) v2 xs):=hZ (by rw[aF1.out];exact ho2);have HB2:=hZ hb2;clear ho2 hb2 Ps))
     have Ht:=hZ ho3;have HB3:Hid (Below (wo.heap.size+1) (wo.alloc (.cells #[.int .i64 bb.a,.int .i64 bb.o] 184)) w3):=hZ (by
      have h2:=HB2.out;rw[<-aF1.out] at h2;exact h2.trans hb3)
     clear ho3 hb3;have hs3:wo.heap.size<w3.heap.size:=by have:=HB3.out.size;have:=aF1.out;omega
     have g0:w3.cell? ⟨wo.heap.size,0,none⟩=some (.int .i64 bb.a):=by rw[HB3.out.cell (p:=⟨wo.heap.size,0,none⟩) (Nat.lt_succ_self _)];simp[go_sem]
     have g1:w3.cell? ⟨wo.heap.size,1,none⟩=some (.int .i64 bb.o):=by rw[HB3.out.cell (p:=⟨wo.heap.size,1,none⟩) (Nat.lt_succ_self _)];simp[go_sem]
     have g2:w3.frozen? ⟨wo.heap.size,1,none⟩=false:=by rw[HB3.out.frozen (p:=⟨wo.heap.size,1,none⟩) (Nat.lt_succ_self _)];simp[go_sem]
     have vT:=hZ (zG.out.trans (HB3.out.mono (by omega)));clear bc0 bc1;go_loopw [11] (λv11 wr=>∃(o:Int) (out:List aH),Hid (Xz xs bb.a out o)/\Hid (Os lQ 2 184 wr (wo.heap.size+1) v11 out)/\Hid (Below w.heap.size w wr)/\wo.heap.size<wr.heap.size/\wr.cell? ⟨wo.heap.size,0,none⟩=some (.int .i64 bb.a)/\wr.cell? ⟨wo.heap.size,1,none⟩=some (.int .i64 o)/\wr.frozen? ⟨wo.heap.size,1,none⟩=false/\ord<=o/\o<=6/\out.length+o<=70) (λ_ wr=>(He wr ⟨wo.heap.size,1,none⟩ -ord).toNat)
     case atStart=>exact⟨bb.o,xs.eraseIdx i,oN,Ht,vT,hs3,g0,g1,g2,HUO.out,aOW,by rw[List.length_eraseIdx,if_pos hlx];omega⟩
     case round=>
      obtain⟨o,out,HT,HO,HBr,Gu,c0,c1,c2,hoo,wC,hol⟩:=hrel;obtain⟨A2,cp,rfl,hcp1,hcp2⟩:=HO.out.form;by_cases hgt:ord<o
      ·have hs1:=wS (o -1) (by omega) (by omega)
       have HT2:=hZ (HT.out.step (by omega));obtain⟨q1,q2⟩:0<=bb.a/\bb.a<=64:=by
        obtain⟨h1,h2,_⟩:=bL HT.out.1;have:=dC o;simp only at h1 h2;exact⟨h1,by omega⟩
       obtain⟨s1,s2⟩:=I1 (o:=o -1) (by omega) (by omega);generalize aX (o -1)=s at*;have hm1:He wr ⟨wo.heap.size,1,none⟩=o:=Lr c1;obtain⟨i0,hi,hz0,hz1,hz2⟩:=info_parts Pg;have hWs:(wr.setCell ⟨wo.heap.size,1,none⟩ (.int .i64 (o -1))).heap.size=wr.heap.size:=by simp
       have HOs:Hid (Os lQ 2 184 (wr.setCell ⟨wo.heap.size,1,none⟩ (.int .i64 (o -1))) (wo.heap.size+1) (.slice A2 out.length cp) out):=hZ (HO.out.Og (Nat.lt_succ_self _) _);go_wp2;have pJ:Hid (IntKind.i64.wrap (bb.a+s)=bb.a+s):=hZ (by rw[IntKind.wrap_i64];omega);have HNC:Hid (∀j u,(lQ ⟨IntKind.i64.wrap (bb.a+s),o -1⟩)[j]? =some u->((wr.setCell ⟨wo.heap.size,1,none⟩ (.int .i64 (o -1))).alloc (.cells #[.int .i64 (IntKind.i64.wrap (bb.a+s)),.int .i64 (o -1)] 184)).drew.cell? ((⟨wr.heap.size,0,none⟩:Addr).add j)=some u):=hZ (λj u h=>by
        have:=qN (T:=184) (vs:=lQ ⟨IntKind.i64.wrap (bb.a+s),o -1⟩) (W:=wr.setCell ⟨wo.heap.size,1,none⟩ (.int .i64 (o -1))) j u h;rw[hWs] at this;exact this)
       have HOW:Hid (Os lQ 2 184 (((wr.setCell ⟨wo.heap.size,1,none⟩ (.int .i64 (o -1))).alloc (.cells #[.int .i64 (IntKind.i64.wrap (bb.a+s)),.int .i64 (o -1)] 184)).drew) (wo.heap.size+1) (.slice A2 out.length cp) out):=hZ (HOs.out.below (((Below.refl _ _).alloc (nR _) _).trans (jY _ _)) (nR _));have hWz:wo.heap.size+1<=(((wr.setCell ⟨wo.heap.size,1,none⟩ (.int .i64 (o -1))).alloc (.cells #[.int .i64 (IntKind.i64.wrap (bb.a+s)),.int .i64 (o -1)] 184)).drew).heap.size:=by simp;omega
       have hWb:wo.heap.size<wr.heap.size:=Gu;have hW0:Hid ((((wr.setCell ⟨wo.heap.size,1,none⟩ (.int .i64 (o -1))).alloc (.cells #[.int .i64 (IntKind.i64.wrap (bb.a+s)),.int .i64 (o -1)] 184)).drew).cell? ⟨wo.heap.size,0,none⟩=some (.int .i64 bb.a)):=hZ (by simp[go_sem,c0,hWb]);have hW1:Hid ((((wr.setCell ⟨wo.heap.size,1,none⟩ (.int .i64 (o -1))).alloc (.cells #[.int .i64 (IntKind.i64.wrap (bb.a+s)),.int .i64 (o -1)] 184)).drew).cell? ⟨wo.heap.size,1,none⟩=some (.int .i64 (o -1))):=hZ (by simp[go_sem,c1,hWb]);have hW2:Hid ((((wr.setCell ⟨wo.heap.size,1,none⟩ (.int .i64 (o -1))).alloc (.cells #[.int .i64 (IntKind.i64.wrap (bb.a+s)),.int .i64 (o -1)] 184)).drew).frozen? ⟨wo.heap.size,1,none⟩=false):=hZ (by simp[go_sem,c2,hWb]);have tT:Hid (Below w.heap.size w (((wr.setCell ⟨wo.heap.size,1,none⟩ (.int .i64 (o -1))).alloc (.cells #[.int .i64 (IntKind.i64.wrap (bb.a+s)),.int .i64 (o -1)] 184)).drew)):=hZ (((HBr.out.setCell (by exact hsz) _).alloc (by simp;omega) _).trans (jY _ _))
       go_region_law (first
        |(refine yD rfl (.tmp 68) (.tmp 78) 54 rfl (wo.heap.size+1) 184 i0 (.agg #[.int .i64 0,.int .i64 0]) 2 16 Tryz.underlying54 hi hz0 hz1 hz2 rfl (by decide) (.slice A2 out.length cp) out.length (out.flatMap lQ) (by simp[Act.eval]) HOW.out ⟨wr.heap.size,0,none⟩ 1 1 (lQ ⟨IntKind.i64.wrap (bb.a+s),o -1⟩) (by simp[Act.eval]) rfl HNC.out (D9 _) (by unfold maxLen;omega) (by omega) (by first|(simp;omega)|omega) ?_
          intro v' w' hown hgrow;have HON:Hid (Os lQ 2 184 w' (wo.heap.size+1) v' (out++ [⟨bb.a+s,o -1⟩])):=hZ (by
           have:=xJ (ys:=[(⟨IntKind.i64.wrap (bb.a+s),o -1⟩:aH)]) (by simpa using hown) (by simp);rw[pJ.out] at this;exact this)
          have HBN:=hZ (qL hgrow HOW.out (nR _) hWz);clear hown hgrow)
        |(refine aGD 171 #[.int .i64 (o -1)] rfl ?_ (hs1 _) (λe w' h=>⟨_,h.1⟩) ?_
          ·(go_simp;done)
          rintro v w2 ⟨e,rfl⟩;injection e with e;subst e))
       all_goals
        go_wp2;go_roundw
        case rel=>
         exact⟨v',_,_,_,_,_,_,_,_,_,_,_,_,_,_,_,_,_,_,_,_,⟨o -1,_,HT2,HON,hZ (tT.out.trans (HBN.out.mono (by omega))),(by have:=HBN.out.size;omega),(by rw[HBN.out.cell (p:=⟨wo.heap.size,0,none⟩) (Nat.lt_succ_self _)];exact hW0.out),(by rw[HBN.out.cell (p:=⟨wo.heap.size,1,none⟩) (Nat.lt_succ_self _)];exact hW1.out),(by rw[HBN.out.frozen (p:=⟨wo.heap.size,1,none⟩) (Nat.lt_succ_self _)];exact hW2.out),by omega,by omega,by simp;omega⟩,rfl⟩
        case measure=>
         have e1:He _ ⟨wo.heap.size,1,none⟩=o -1:=Lr (by rw[HBN.out.cell (p:=⟨wo.heap.size,1,none⟩) (Nat.lt_succ_self _)];exact hW1.out);rw[hm1,e1];omega
      ·have hoe:o=ord:=by omega
       subst hoe;have hd:decide (o<o)=false:=by simp
       have hgd:=HT.out.2.1.1;have hsort:=Yu (.slice A2 out.length cp) out wr (wo.heap.size+1) HO.out (λx hx=>by
        obtain⟨h1,h2,_⟩:=bL (hgd x hx);have:=dC x.o;exact⟨h1,by omega⟩) (by omega) (by omega)
       clear hgd;go_wp2_with(go_at_call 172;refine hsort.mono ?_;rintro e w4 ⟨rfl,ys,hp,Pn,jH,hb4⟩)
       have zF:=hZ jH;have qQ:=hZ hb4;have HYS:Hid (ys=takeC xs bb.a o):=hZ (HT.out.end hp.symm Pn);have d0:w4.cell? ⟨wo.heap.size,0,none⟩=some (.int .i64 bb.a):=by rw[qQ.out.cell (p:=⟨wo.heap.size,0,none⟩) (Nat.lt_succ_self _)];exact c0
       clear jH hb4 hp Pn hsort
       go_quiet (fail)
       go_wp2
       go_ret3
       refine⟨_,by rw[aP.out];rfl,?_,HBr.out.trans ((qQ.out.mono (by omega)).trans (below_drewN _ _ _))⟩;rw[aP.out,<-HYS.out];exact(zF.out.below (below_drewN _ _ _) (nR _)).gD (by omega)
theorem aJg (l:List aH) (b:aH):mF l b=if kX l then(if okB b then(if meets l b then(([],7):List aH×Int) else(Gz l b,0)) else([],2)) else([],1):=rfl
def aNQ (w:World) (r:List aH×Int) (e:Ending) (w':World):Prop:=∃v,e=.returned (.tuple #[v,.int .i64 r.2])/\Os lQ 2 184 w' w.heap.size v r.1/\Below w.heap.size w w'
theorem aLa {w:World} {base:Nat} {A:Option Addr} {n c:Nat} {xs:List aH} (h:Os lQ 2 184 w base (.slice A n c) xs) (hn:0<xs.length):∃g,A=some ⟨g,0,none⟩:=by
 obtain⟨_,⟨e,h0⟩|⟨g,cap,cur,e,_⟩⟩:=h
 ·omega
 ·injection e with e _ _;exact⟨g,e⟩
theorem aIH {xs:List aH} {b:aH} {n:Nat} (hn:xs.length=n) (h:∀j x,j<n->xs[j]? =some x->Du x b=false):meets xs b=false:=by
 unfold meets;rw[List.any_eq_false];intro x hx;obtain⟨j,hj⟩:=List.getElem?_of_mem hx;have hl:=(List.getElem?_eq_some_iff.1 hj).1;rw[h j x (by omega) hj];simp
theorem aG7 {xs:List aH} {b x:aH} {j:Nat} (hx:xs[j]? =some x) (h:Du x b=true):meets xs b=true:=by
 unfold meets;rw[List.any_eq_true];exact⟨x,List.mem_of_getElem? hx,h⟩
theorem aJe (A:Option Addr) (n c:Nat) (xs:List aH) (b:aH) (hbf:b.fits) (w:World) (B:Nat) (hz:Rw lQ 2 w B A n xs) (hf:∀x∈xs,x.fits) (hB:B<=w.heap.size) (hbig:n<=140737488355328):
 Calls Tryz.prog 157 #[.slice A n c,.agg #[.int .i64 b.a,.int .i64 b.o]] w (aNQ w (mF xs b)):=by
 have HW0:=hZ ((Below.refl w.heap.size w).alloc (nR _) (.cells #[.int .i64 b.a,.int .i64 b.o] 184));have hright:=Kg A n c xs (w.alloc (.cells #[.int .i64 b.a,.int .i64 b.o] 184)) B (hz.below (HW0.out.mono hB)) hf (by simp;omega) hbig;have rW:=hZ (aJg xs b);have HZ:=hZ hz;have HL:=hZ hz.1;cases hr:kX xs with
 |false=>
  rw[hr] at hright;have aP:Hid (mF xs b=([],1)):=hZ (by rw[rW.out,hr];rfl);clear rW hz hf hr;generalize mF xs b=rs at*;go_enter Tryz.func157,Tryz.ntmps157;go_wp2_with(go_at_call 168;refine hright.mono ?_;rintro e w1 ⟨rfl,hb1⟩)
  go_ret2
  exact⟨_,by rw[aP.out];rfl,by rw[aP.out];exact Os.nil,HW0.out.trans (hb1.mono (by simp))⟩
 |true=>
  rw[hr] at hright;have Qu:=hZ (wU hr);have Cq:n<=64:=by rw[<-hz.1];exact Ol Qu.out
  have HX:=hZ (λ(i:Nat) (hi:i<n)=>(⟨xs[i]'(by rw[hz.1];exact hi),List.getElem?_eq_getElem _⟩:∃x,xs[i]? =some x));have HA:Hid (0<n->∃b off,A=some ⟨b,off,none⟩/\b<B):=hZ (λh=>HZ.out.open h);have HT1:Hid (okB b=false->mF xs b=([],2)):=hZ (λh=>by rw[rW.out,hr,h];rfl);have HT2:Hid (okB b=true->meets xs b=true->mF xs b=([],7)):=hZ (λh h2=>by rw[rW.out,hr,h,h2];rfl);have HT3:Hid (okB b=true->meets xs b=false->mF xs b=(Gz xs b,0)):=hZ (λh h2=>by rw[rW.out,hr,h,h2];rfl);clear rW hz hf hr;generalize mF xs b=rs at*;have hfit:=aCR b hbf;cases hok:okB b with
  |false=>
   rw[hok] at hfit;have aP:=hZ (HT1.out hok);clear hok HT1 HT2 HT3;go_enter Tryz.func157,Tryz.ntmps157;go_wp2_with(first
    |(go_at_call 176;refine(hfit w1).mono ?_;rintro e w2 ⟨rfl,hb2⟩)
    |(go_at_call 168
      refine hright.mono ?_;rintro e w1 ⟨rfl,hb1⟩;have HB1:=hZ hb1;have d0:w1.cell? ⟨w.heap.size,0,none⟩=some (.int .i64 b.a):=by rw[hb1.cell (p:=⟨w.heap.size,0,none⟩) (by simp)];simp[go_sem]
      have d1:w1.cell? ⟨w.heap.size,1,none⟩=some (.int .i64 b.o):=by rw[hb1.cell (p:=⟨w.heap.size,1,none⟩) (by simp)];simp[go_sem]
      clear hb1 hright))
   have HB2:Hid (Below (w.alloc (.cells #[.int .i64 b.a,.int .i64 b.o] 184)).heap.size (w.alloc (.cells #[.int .i64 b.a,.int .i64 b.o] 184)) w2):=hZ (HB1.out.trans (hb2.mono HB1.out.size));have vT:=hZ (HW0.out.trans (HB2.out.mono (by simp)));have hg2:w.heap.size<w2.heap.size:=by have:=HB2.out.size;simp at this;omega
   have e0:w2.cell? ⟨w.heap.size,0,none⟩=some (.int .i64 b.a):=by rw[HB2.out.cell (p:=⟨w.heap.size,0,none⟩) (by simp)];simp[go_sem]
   have e1:w2.cell? ⟨w.heap.size,1,none⟩=some (.int .i64 b.o):=by rw[HB2.out.cell (p:=⟨w.heap.size,1,none⟩) (by simp)];simp[go_sem]
   have f0:w2.frozen? ⟨w.heap.size,0,none⟩=false:=by rw[HB2.out.frozen (p:=⟨w.heap.size,0,none⟩) (by simp)];simp[go_sem]
   have f1:w2.frozen? ⟨w.heap.size,1,none⟩=false:=by rw[HB2.out.frozen (p:=⟨w.heap.size,1,none⟩) (by simp)];simp[go_sem]
   clear hb2 d0 d1
   go_ret2
   exact⟨_,by rw[aP.out];rfl,by rw[aP.out];exact Os.nil,vT.out⟩
  |true=>
   rw[hok] at hfit;have aJU:=hZ hok;obtain⟨p1,p2,p3,p4⟩:=bL hok;have po1:0<=b.o:=by omega
   have po2:b.o<=6:=by omega
   have hsb:=wS b.o po1 po2;obtain⟨s1,s2⟩:=I1 po1 po2;have HMB:Hid (∀x:aH,Du x b=(decide (x.a<b.a+aX b.o)&&decide (b.a<x.a+aX x.o))):=hZ (λx=>rfl);clear hok HT1 p3 p4;obtain⟨sb,aFt⟩:∃s,s=aX b.o:=⟨_,rfl⟩;rw[<-aFt] at hsb s1 s2 p2;rw[<-aFt] at HMB;have HSB:=hZ aFt;clear aFt;go_enter Tryz.func157,Tryz.ntmps157;go_wp2_with(first
    |(go_at_call 176;refine(hfit w1).mono ?_;rintro e w2 ⟨rfl,hb2⟩)
    |(go_at_call 168
      refine hright.mono ?_;rintro e w1 ⟨rfl,hb1⟩;have HB1:=hZ hb1;have d0:w1.cell? ⟨w.heap.size,0,none⟩=some (.int .i64 b.a):=by rw[hb1.cell (p:=⟨w.heap.size,0,none⟩) (by simp)];simp[go_sem]
      have d1:w1.cell? ⟨w.heap.size,1,none⟩=some (.int .i64 b.o):=by rw[hb1.cell (p:=⟨w.heap.size,1,none⟩) (by simp)];simp[go_sem]
      clear hb1 hright))
   have HB2:Hid (Below (w.alloc (.cells #[.int .i64 b.a,.int .i64 b.o] 184)).heap.size (w.alloc (.cells #[.int .i64 b.a,.int .i64 b.o] 184)) w2):=hZ (HB1.out.trans (hb2.mono HB1.out.size));have vT:=hZ (HW0.out.trans (HB2.out.mono (by simp)));have hg2:w.heap.size<w2.heap.size:=by have:=HB2.out.size;simp at this;omega
   have e0:w2.cell? ⟨w.heap.size,0,none⟩=some (.int .i64 b.a):=by rw[HB2.out.cell (p:=⟨w.heap.size,0,none⟩) (by simp)];simp[go_sem]
   have e1:w2.cell? ⟨w.heap.size,1,none⟩=some (.int .i64 b.o):=by rw[HB2.out.cell (p:=⟨w.heap.size,1,none⟩) (by simp)];simp[go_sem]
   have f0:w2.frozen? ⟨w.heap.size,0,none⟩=false:=by rw[HB2.out.frozen (p:=⟨w.heap.size,0,none⟩) (by simp)];simp[go_sem]
   have f1:w2.frozen? ⟨w.heap.size,1,none⟩=false:=by rw[HB2.out.frozen (p:=⟨w.heap.size,1,none⟩) (by simp)];simp[go_sem]
   clear hb2 d0 d1;clear hfit;go_loopw [18] (λi wr=>∃k:Nat,k<=n/\i=.int .i64 k/\Hid (Below w2.heap.size w2 wr)/\Hid (∀j x,j<k->xs[j]? =some x->Du x b=false)) (λi _=>n - (intOf i).toNat)
   case atStart=>exact⟨0,by omega,rfl,hZ (Below.refl _ _),hZ (λj x hj=>absurd hj (Nat.not_lt_zero _))⟩
   case round=>
    obtain⟨k,hk,rfl,HB,HG⟩:=hrel;have hsz:=HB.out.size;have c0:wr.cell? ⟨w.heap.size,0,none⟩=some (.int .i64 b.a):=by rw[HB.out.cell (p:=⟨w.heap.size,0,none⟩) hg2];exact e0
    have c1:wr.cell? ⟨w.heap.size,1,none⟩=some (.int .i64 b.o):=by rw[HB.out.cell (p:=⟨w.heap.size,1,none⟩) hg2];exact e1
    have c2:wr.frozen? ⟨w.heap.size,0,none⟩=false:=by rw[HB.out.frozen (p:=⟨w.heap.size,0,none⟩) hg2];exact f0
    have c3:wr.frozen? ⟨w.heap.size,1,none⟩=false:=by rw[HB.out.frozen (p:=⟨w.heap.size,1,none⟩) hg2];exact f1
    have hgr:w.heap.size<wr.heap.size:=by omega
    have HBQ:=hZ (vT.out.trans (HB.out.mono (by omega)));have HZr:=hZ (HZ.out.below (HBQ.out.mono hB));by_cases hlt:k<n
    ·obtain⟨x,hx⟩:=HX.out k hlt
     obtain⟨ab,off,q8,hb⟩:=HA.out (by omega);subst q8;have hcs:=HZr.out.at_ jD hx;have Ec:wr.cell? ⟨ab,off+k*2,none⟩=some (.int .i64 x.a):=hcs 0 _ rfl;have Eb:wr.cell? ⟨ab,off+k*2+1,none⟩=some (.int .i64 x.o):=hcs 1 _ rfl;have HX0:=hZ hx;have zG:=hZ (λq=>(HB.out.alloc hsz (.cells #[.int .i64 x.a,.int .i64 x.o] 184)).trans (below_drewN w2.heap.size _ q));obtain⟨x1,x2,x3,x4⟩:=bL (Qu.out.1 x (List.mem_of_getElem? hx));have xo1:0<=x.o:=by omega
     have xo2:x.o<=6:=by omega
     have hsx:=wS x.o xo1 xo2;obtain⟨t1,t2⟩:=I1 xo1 xo2;have HMX:=hZ (HMB.out x);clear hcs hx x3 x4;generalize aX x.o=sx at*;by_cases h1:x.a<b.a+sb
     ·have hd1:decide (x.a<b.a+sb)=true:=decide_eq_true h1
      by_cases h2:b.a<x.a+sx
      ·have hd2:decide (b.a<x.a+sx)=true:=decide_eq_true h2
       have aP:=hZ (HT2.out aJU.out (aG7 HX0.out (by rw[HMX.out,hd1,hd2];rfl)));clear HT2 HT3;go_wp2
       go_quiet (first|(go_at_call 171;exact nQ hsb)|(go_at_call 171;exact nQ hsx))
       go_wp2
       go_ret2
       exact⟨_,by rw[aP.out];rfl,by rw[aP.out];exact Os.nil,vT.out.trans ((zG.out _).mono (by omega))⟩
      ·have hd2:decide (b.a<x.a+sx)=false:=decide_eq_false h2
       have HMM:Hid (Du x b=false):=hZ (by rw[HMX.out,hd2];simp);go_wp2
       go_quiet (first|(go_at_call 171;exact nQ hsb)|(go_at_call 171;exact nQ hsx))
       go_wp2;go_roundw
       case rel=>exact⟨k+1,by omega,by go_num,hZ (zG.out _),hZ (λj y hj hy=>by
        by_cases e:j=k
        ·subst e
         rw[HX0.out] at hy;cases hy;exact HMM.out
        ·exact HG.out j y (by omega) hy)⟩
       case measure=>simp[intOf];omega
     ·have hd1:decide (x.a<b.a+sb)=false:=decide_eq_false h1
      have HMM:Hid (Du x b=false):=hZ (by rw[HMX.out,hd1];simp);go_wp2
      go_quiet (first|(go_at_call 171;exact nQ hsb))
      go_wp2;go_roundw
      case rel=>exact⟨k+1,by omega,by go_num,hZ (zG.out _),hZ (λj y hj hy=>by
       by_cases e:j=k
       ·subst e
        rw[HX0.out] at hy;cases hy;exact HMM.out
       ·exact HG.out j y (by omega) hy)⟩
      case measure=>simp[intOf];omega
    ·have hkn:k=n:=by omega
     subst hkn;have HMS:=hZ (aIH HL.out HG.out);have aP:=hZ (HT3.out aJU.out HMS.out);have HGS:=hZ (Tq.start Qu.out aJU.out HMS.out);obtain⟨wo,hwo⟩:∃wo,wo=wr:=⟨_,rfl⟩;subst hwo;have Ps:=aEK A k c xs wo B HZr.out (by omega) (by omega);have HLX:=HL;clear HT2 HT3 HG hsb;go_wp2_with(go_at_call 170;refine Ps.mono ?_;rintro e w3 ⟨v3,rfl,ho3,hb3⟩)
     have Ht:=hZ ho3;have HB3:=hZ hb3;have hs3:=hb3.size;have z0:w3.cell? ⟨w.heap.size,0,none⟩=some (.int .i64 b.a):=by rw[HB3.out.cell (p:=⟨w.heap.size,0,none⟩) hgr];exact c0
     have z1:w3.cell? ⟨w.heap.size,1,none⟩=some (.int .i64 b.o):=by rw[HB3.out.cell (p:=⟨w.heap.size,1,none⟩) hgr];exact c1
     have z2:w3.frozen? ⟨w.heap.size,0,none⟩=false:=by rw[HB3.out.frozen (p:=⟨w.heap.size,0,none⟩) hgr];exact c2
     have z3:w3.frozen? ⟨w.heap.size,1,none⟩=false:=by rw[HB3.out.frozen (p:=⟨w.heap.size,1,none⟩) hgr];exact c3
     clear ho3 hb3 Ps e0 e1 f0 f1 c0 c1 c2 c3;go_loopw [8] (λv8 wr=>∃(a o:Int) (out:List aH),Hid (Tq xs b out ⟨a,o⟩)/\Hid (Os lQ 2 184 wr wo.heap.size v8 out)/\Hid (Below w.heap.size w wr)/\wo.heap.size<=wr.heap.size/\wr.cell? ⟨w.heap.size,0,none⟩=some (.int .i64 a)/\wr.cell? ⟨w.heap.size,1,none⟩=some (.int .i64 o)/\wr.frozen? ⟨w.heap.size,0,none⟩=false/\wr.frozen? ⟨w.heap.size,1,none⟩=false/\out.length<=64) (λ_ wr=>(6 -He wr ⟨w.heap.size,1,none⟩).toNat)
     case atStart=>exact⟨b.a,b.o,xs,HGS,Ht,hZ (HBQ.out.trans (HB3.out.mono (by omega))),hs3,z0,z1,z2,z3,by rw[HLX.out];exact Cq⟩
     case round=>
      obtain⟨a,o,out,HT,HO,HBr,Gu,c0,c1,c2,c3,hol⟩:=hrel;obtain⟨A2,cp,rfl,hcp1,hcp2⟩:=HO.out.form;have hgw:w.heap.size<wr.heap.size:=by omega
      by_cases h6:o<6
      ·obtain⟨q1,q2,q3⟩:0<=a/\a<64/\0<=o:=by
        obtain⟨h1,h2,_,h4⟩:=bL HT.out.1;have:=dC o;simp only at h1 h2 h4;exact⟨h1,by omega,by omega⟩
       have hs1:=wS o q3 (by omega);have aIW:=aDR q1 q2 q3 h6;have aNj:0<=eQ a o/\eQ a o<=64:=by
        obtain⟨m1,m2,m3⟩:=aCb HT.out.1 h6;have m4:=bL m2;simp only at m4;have:=dC (o+1);have:=dC o;omega
       obtain⟨s,hsE⟩:∃s,s=aX o:=⟨_,rfl⟩;rw[<-hsE] at hs1 aIW;clear hsE;obtain⟨bd,aI9⟩:∃bd,bd=eQ a o:=⟨_,rfl⟩;rw[<-aI9] at aIW aNj;have HBD:=hZ aI9;clear aI9;obtain⟨b1,b2⟩:=aNj;obtain⟨A3,c3',e3,_,_,hrw⟩:=HO.out.row jD;injection e3 with e31 e32 e33;subst e31 e33;clear e32;have hidx:∀(d:Nat) (os:Array Obj),Calls Tryz.prog 177 #[.slice A2 out.length cp,.agg #[.int .i64 bd,.int .i64 o]] (grow (redrawn wr d) os) λe w'=>e=.returned (.int .i64 (idxOf (λx=>nY ⟨bd,o⟩ x) out))/\Below (grow (redrawn wr d) os).heap.size (grow (redrawn wr d) os) w':=λd os=>aLA ⟨bd,o⟩ A2 out.length cp out _ wr.heap.size (hrw.below (below_regrown wr d os)) (below_regrown wr d os).size (by omega);have Fv:=hZ (show idxOf (λx=>nY ⟨bd,o⟩ x) out=if out.findIdx (λx=>nY ⟨bd,o⟩ x)<out.length then(out.findIdx (λx=>nY ⟨bd,o⟩ x):Int) else -1 from rfl);have HIY:=hZ (λ(h:out.findIdx (λx=>nY ⟨bd,o⟩ x)<out.length)=>(by
        have h2:=List.findIdx_getElem (w:=h);rw[List.getElem?_eq_getElem h];exact congrArg some (Rn.1 h2).symm:out[out.findIdx (λx=>nY ⟨bd,o⟩ x)]? =some ⟨bd,o⟩))
       have rg0:∀d os,(grow (redrawn wr d) os).cell? ⟨w.heap.size,0,none⟩=some (.int .i64 a):=cell_regrown c0;have rg1:∀d os,(grow (redrawn wr d) os).cell? ⟨w.heap.size,1,none⟩=some (.int .i64 o):=cell_regrown c1;clear hrw;obtain⟨ix,Pp⟩:∃ix,ix=idxOf (λx=>nY ⟨bd,o⟩ x) out:=⟨_,rfl⟩;rw[<-Pp] at Fv;rw[<-Pp] at hidx;clear Pp;go_wp2;refine wp_region_quiet_below (by kernel_rfl) (by kernel_rfl) ?_;repeat(go_big_quiet_step(first|(go_at_call 177;exact Calls.regrown_of (hidx _ _))|(go_at_call 171;exact Eo hs1)))
       refine wpQuiet_nil ?_;intro w5 hw';obtain⟨p',hw'⟩:=hw';have hb5:Below wr.heap.size wr w5:=by rw[hw'];exact below_regrown _ _ _
       clear hw' p' rg0 rg1 hidx hs1;have hs5:=hb5.size;have HO5:=hZ (HO.out.below hb5 (nR _));have vU:=hZ (HBr.out.trans (hb5.mono (by omega)));have y0:w5.cell? ⟨w.heap.size,0,none⟩=some (.int .i64 a):=by rw[hb5.cell (p:=⟨w.heap.size,0,none⟩) hgw];exact c0
       have y1:w5.cell? ⟨w.heap.size,1,none⟩=some (.int .i64 o):=by rw[hb5.cell (p:=⟨w.heap.size,1,none⟩) hgw];exact c1
       have y2:w5.frozen? ⟨w.heap.size,0,none⟩=false:=by rw[hb5.frozen (p:=⟨w.heap.size,0,none⟩) hgw];exact c2
       have y3:w5.frozen? ⟨w.heap.size,1,none⟩=false:=by rw[hb5.frozen (p:=⟨w.heap.size,1,none⟩) hgw];exact c3
       have hm1:He wr ⟨w.heap.size,1,none⟩=o:=Lr c1;clear hb5 c0 c1 c2 c3;by_cases hfi:out.findIdx (λx=>nY ⟨bd,o⟩ x)<out.length
       ·have xW:=hZ (HIY.out hfi)
        rw[if_pos hfi] at Fv;have Pp:=Fv.out;clear Fv HIY;obtain⟨kk,aNc⟩:∃kk,kk=out.findIdx (λx=>nY ⟨bd,o⟩ x):=⟨_,rfl⟩;rw[<-aNc] at xW Pp hfi;clear aNc;subst Pp;have hk0:decide ((kk:Int)<0)=false:=decide_eq_false (by omega);obtain⟨g,rfl⟩:=aLa HO5.out (by omega);have hcs:=HO5.out.cells jD xW.out;have r0:w5.cell? ⟨g,kk*2,none⟩=some (.int .i64 bd):=(hcs 0 _ rfl).1;have hgs:=HO5.out.vP;have aPH:(kk:Int)<(out.length:Int):=by omega
        have aPG:(0:Int)<=(kk:Int):=by omega
        have HT2:Hid (Tq xs b (out.eraseIdx kk) ⟨min a bd,o+1⟩):=hZ (by
         have:=HT.out.step (k:=kk) h6 (by rw[<-HBD.out];exact xW.out);rw[<-HBD.out] at this;exact this)
        have HOS:Hid (Os lQ 2 184 ((w5.drew.setCell ⟨w.heap.size,0,none⟩ (.int .i64 (min a bd))).setCell ⟨w.heap.size,1,none⟩ (.int .i64 (o+1))) wo.heap.size (.slice (some ⟨g,0,none⟩) out.length cp) out):=hZ (((HO5.out.below (jY _ _) (nR _)).Og (by omega) _).Og (by omega) _);have hdel:=aC4 (.slice (some ⟨g,0,none⟩) out.length cp) out kk hfi _ wo.heap.size HOS.out (by simp;omega) (by omega);have hg5:w.heap.size<w5.heap.size:=by omega
        have hW0:Hid (((w5.drew.setCell ⟨w.heap.size,0,none⟩ (.int .i64 (min a bd))).setCell ⟨w.heap.size,1,none⟩ (.int .i64 (o+1))).cell? ⟨w.heap.size,0,none⟩=some (.int .i64 (min a bd))):=hZ (by simp[go_sem,y0]);have hW1:Hid (((w5.drew.setCell ⟨w.heap.size,0,none⟩ (.int .i64 (min a bd))).setCell ⟨w.heap.size,1,none⟩ (.int .i64 (o+1))).cell? ⟨w.heap.size,1,none⟩=some (.int .i64 (o+1))):=hZ (by simp[go_sem,y1]);have hW2:Hid (((w5.drew.setCell ⟨w.heap.size,0,none⟩ (.int .i64 (min a bd))).setCell ⟨w.heap.size,1,none⟩ (.int .i64 (o+1))).frozen? ⟨w.heap.size,0,none⟩=false):=hZ (by simp[go_sem,y2]);have hW3:Hid (((w5.drew.setCell ⟨w.heap.size,0,none⟩ (.int .i64 (min a bd))).setCell ⟨w.heap.size,1,none⟩ (.int .i64 (o+1))).frozen? ⟨w.heap.size,1,none⟩=false):=hZ (by simp[go_sem,y3]);have tT:Hid (Below w.heap.size w ((w5.drew.setCell ⟨w.heap.size,0,none⟩ (.int .i64 (min a bd))).setCell ⟨w.heap.size,1,none⟩ (.int .i64 (o+1)))):=hZ (((vU.out.trans (jY _ _)).setCell (nR _) _).setCell (nR _) _);have HSX:Hid (((w5.drew.setCell ⟨w.heap.size,0,none⟩ (.int .i64 (min a bd))).setCell ⟨w.heap.size,1,none⟩ (.int .i64 (o+1))).heap.size=w5.heap.size):=hZ (by simp);clear hcs;go_wp2
        go_region
        go_wp2_with(go_at_call 169;refine hdel.mono ?_;rintro e w6 ⟨v6,rfl,wC,hb6⟩)
        have HO6:=hZ wC;have nN:=hZ hb6;clear wC hb6 hdel;have z0:w6.cell? ⟨w.heap.size,0,none⟩=some (.int .i64 (min a bd)):=by rw[nN.out.cell (p:=⟨w.heap.size,0,none⟩) hgr];exact hW0.out
        have z1:w6.cell? ⟨w.heap.size,1,none⟩=some (.int .i64 (o+1)):=by rw[nN.out.cell (p:=⟨w.heap.size,1,none⟩) hgr];exact hW1.out
        have z2:w6.frozen? ⟨w.heap.size,0,none⟩=false:=by rw[nN.out.frozen (p:=⟨w.heap.size,0,none⟩) hgr];exact hW2.out
        have z3:w6.frozen? ⟨w.heap.size,1,none⟩=false:=by rw[nN.out.frozen (p:=⟨w.heap.size,1,none⟩) hgr];exact hW3.out
        go_roundw
        case rel=>exact⟨min a bd,o+1,out.eraseIdx kk,HT2,HO6,hZ (tT.out.trans (nN.out.mono (by omega))),by have:=nN.out.size;have:=HSX.out;omega,z0,z1,z2,z3,by rw[List.length_eraseIdx];split<;>omega⟩
        case measure=>
         have e1:He w6 ⟨w.heap.size,1,none⟩=o+1:=Lr z1;rw[hm1,e1];omega
       ·rw[if_neg hfi] at Fv
        have Pp:=Fv.out;clear Fv HIY;subst Pp;have HOT:=HO5;have Yk:=vU;have c0:=y0;have c1:=y1;clear y2 y3;have HGD:=HT.out.2.1;have hgb:=HT.out.1;have HNB:Hid (o<6->∀x∈out,x≠⟨eQ a o,o⟩):=hZ (λ_ x hx e=>by have:=(List.findIdx_lt_length (p:=λx=>nY ⟨bd,o⟩ x) (xs:=out)).2 ⟨x,hx,by rw[e,<-HBD.out];exact Rn.2 rfl⟩;omega);obtain⟨j1,j2⟩:0<=a/\a<=64:=by
         obtain⟨h1,h2,_⟩:=bL hgb;have:=dC o;simp only at h1 h2;exact⟨h1,by omega⟩
        have lH:Hid (∀x∈out++ [(⟨a,o⟩:aH)],0<=x.a/\x.a<=64):=hZ (λx hx=>by
         rcases List.mem_append.1 hx with hx|hx
         ·obtain⟨h1,h2,_⟩:=bL (HGD.1 x hx)
          have:=dC x.o;exact⟨h1,by omega⟩
         ·rw[List.mem_singleton.1 hx];exact⟨j1,j2⟩)
        clear HGD hgb j1 j2;go_wp2_with(first
         |(go_at_call 172
           refine(Yu (.slice (some ⟨g',0,none⟩) (out.length+1) c') (out++ [⟨a,o⟩]) w6 (wo.heap.size) HO6.out lH.out (by simp;omega) (by have:=nN.out.size;omega)).mono ?_;rintro e w7 ⟨rfl,ys,hp,Pn,Gw,eX⟩)
         |(at_builtin
           refine nW Tryz.underlying54 Pg rfl (by decide) jD D9 rfl _ _ rfl wo.heap.size (.slice A2 out.length cp) out w5 ⟨a,o⟩ w5.heap.size rfl rfl rfl HOT.out (by omega) (by unfold maxLen;omega) (by omega) ?_;intro g' c' w6 wC hb6 aOX aOV aOG;have HO6:=hZ wC;have nN:=hZ hb6;clear wC hb6))
        have HYS:Hid (ys=Gz xs b):=hZ (HT.out.end HNB.out hp.symm Pn);have Jp:=hZ Gw;have zH:=hZ eX;clear Gw eX hp Pn
        go_ret2
        refine⟨_,by rw[aP.out];rfl,?_,Yk.out.trans ((nN.out.mono (by omega)).trans (zH.out.mono (by omega)))⟩;rw[aP.out,<-HYS.out];exact Jp.out.gD (by omega)
      ·have hoe:6<=o:=by omega
       have HOT:=HO;have Yk:=HBr;have HGD:=HT.out.2.1;have hgb:=HT.out.1;have HNB:Hid (o<6->∀x∈out,x≠⟨eQ a o,o⟩):=hZ (λh=>absurd h (by omega));obtain⟨j1,j2⟩:0<=a/\a<=64:=by
        obtain⟨h1,h2,_⟩:=bL hgb;have:=dC o;simp only at h1 h2;exact⟨h1,by omega⟩
       have lH:Hid (∀x∈out++ [(⟨a,o⟩:aH)],0<=x.a/\x.a<=64):=hZ (λx hx=>by
        rcases List.mem_append.1 hx with hx|hx
        ·obtain⟨h1,h2,_⟩:=bL (HGD.1 x hx)
         have:=dC x.o;exact⟨h1,by omega⟩
        ·rw[List.mem_singleton.1 hx];exact⟨j1,j2⟩)
       clear HGD hgb j1 j2;go_wp2_with(first
        |(go_at_call 172
          refine(Yu (.slice (some ⟨g',0,none⟩) (out.length+1) c') (out++ [⟨a,o⟩]) w6 (wo.heap.size) HO6.out lH.out (by simp;omega) (by have:=nN.out.size;omega)).mono ?_;rintro e w7 ⟨rfl,ys,hp,Pn,Gw,eX⟩)
        |(at_builtin
          refine nW Tryz.underlying54 Pg rfl (by decide) jD D9 rfl _ _ rfl wo.heap.size (.slice A2 out.length cp) out wr ⟨a,o⟩ wr.heap.size rfl rfl rfl HOT.out (by omega) (by unfold maxLen;omega) (by omega) ?_;intro g' c' w6 wC hb6 aOX aOV aOG;have HO6:=hZ wC;have nN:=hZ hb6;clear wC hb6))
       have HYS:Hid (ys=Gz xs b):=hZ (HT.out.end HNB.out hp.symm Pn);have Jp:=hZ Gw;have zH:=hZ eX;clear Gw eX hp Pn
       go_ret2
       refine⟨_,by rw[aP.out];rfl,?_,Yk.out.trans ((nN.out.mono (by omega)).trans (zH.out.mono (by omega)))⟩;rw[aP.out,<-HYS.out];exact Jp.out.gD (by omega)
def Bv (w:World) (v:Value) (xs:List aH):Prop:=∃A n c,v=.slice A n c/\Rw lQ 2 w w.heap.size A n xs/\n<=140737488355328
theorem Bv.below {w w':World} {v:Value} {xs:List aH} (h:Bv w v xs) (hb:Below w.heap.size w w'):Bv w' v xs:=by
 obtain⟨A,n,c,e,h,hn⟩:=h;exact⟨A,n,c,e,h.on hb (nR _),hn⟩
theorem Bv.of {w:World} {base:Nat} {v:Value} {xs:List aH} (h:Os lQ 2 184 w base v xs) (hn:xs.length<=140737488355328):Bv w v xs:=by
 obtain⟨A,c,e,_,_,hr⟩:=h.row jD;exact⟨A,_,c,e,hr,hn⟩
theorem aB5 {b:aH} (h:okB b=true):b.fits:=by
 obtain⟨h1,h2,_,h4⟩:=bL h;have:=dC b.o;unfold aH.fits eG;omega
theorem aIf (l:List aH) (o:Int):Rp (bQ l o).1:=by
 have hn:Rp []:=⟨by simp,List.Pairwise.nil,by simp[Ra]⟩;unfold bQ;split
 ·split
  ·split
   ·exact hn
   ·exact vC _
  ·exact hn
 ·exact hn
theorem aJf (l:List aH) (b:aH):Rp (mF l b).1:=by
 have hn:Rp []:=⟨by simp,List.Pairwise.nil,by simp[Ra]⟩;unfold mF;split
 ·split
  ·split
   ·exact hn
   ·exact vC _
  ·exact hn
 ·exact hn
theorem aK6 {w:World} {v:Value} {xs:List aH} (h:Bv w v xs) (hf:∀x∈xs,x.fits):Calls Tryz.prog 168 #[v] w λe w'=>e=.returned (.bool (kX xs))/\Below w.heap.size w w':=by
 obtain⟨A,n,c,rfl,hr,hn⟩:=h;exact Kg A n c xs w _ hr hf (nR _) hn
def l2:List aH:=[⟨16,4⟩,⟨32,5⟩]
theorem aKU {o:Int} (h0:0<=o) (h6:o<=6) (w:World):(Op.shift .shl .i64 1 .i64 o).run Tryz.prog w=.ok (.int .i64 (aX o)) w:=by
 rcases Yt h0 h6 with⟨rfl,e⟩|⟨rfl,e⟩|⟨rfl,e⟩|⟨rfl,e⟩|⟨rfl,e⟩|⟨rfl,e⟩|⟨rfl,e⟩<;>rw[e]<;>simp[go_sem]<;>rfl
def BfP (l:List aH):Prop:=(∀b∈l,okB b=true)/\l.Pairwise jR
theorem aHH (l:List aH) (x:aH) (n:Nat):kC (l++ [x]) n=(kC l n||Af x n):=by simp[kC]
theorem aIy {l:List aH} :kX l=true↔BfP l/\canon (kC l)=l:=by
 rw[Gr];constructor
 ·exact λh=>⟨⟨h.1,h.2.1⟩,Ak h λn hn=>qM.symm⟩
 ·rintro⟨_,h⟩
  rw[<-h];exact vC _
end Go.Proofs.YtoogfmbojlpjaaaGreat
namespace Go.Proofs.YtoogfmbojlpjaaaGreat
structure Pl where
 f:List aH
 r:Nat->Int
def aO (r:Nat->Int) (j:Nat) (x:Int):Nat->Int:=λi=>if i=j then x else r i
def jA:Pl:=⟨[],λ_=>0⟩
def Dq (p:Pl) (n:Nat):Bool:=decide (0<=p.r n)&&((p.r n==0)==kC p.f n)
def eD (p:Pl):Bool:=kX p.f&&(List.range 64).all (Dq p)
def gJ (r:Nat->Int):Pl:=⟨canon λn=>r n==0,r⟩
theorem sH {p:Pl} :eD p=true↔(∀n,n<64->0<=p.r n)/\p.f=canon λn=>p.r n==0:=by
 simp only[eD,Bool.and_eq_true,List.all_eq_true,List.mem_range,Dq,decide_eq_true_eq,beq_iff_eq];constructor
 ·rintro⟨h1,h2⟩
  obtain⟨hb,hc⟩:=aIy.1 h1;refine⟨λn hn=>(h2 n hn).1,?_⟩;rw[Bf λn hn=>(h2 n hn).2];exact hc.symm
 ·rintro⟨h1,h2⟩
  refine⟨by rw[h2];exact Gr.2 (vC _),λn hn=>⟨h1 n hn,?_⟩⟩;rw[h2,Bool.eq_iff_iff,qM,Hf];simp;omega
theorem aBX {p:Pl} (h:eD p=true):kX p.f=true:=by
 simp only[eD,Bool.and_eq_true] at h;exact h.1
theorem vJ {p:Pl} (h:eD p=true) {n:Nat} (hn:n<64):kC p.f n=(p.r n==0):=by
 simp only[eD,Bool.and_eq_true,List.all_eq_true,List.mem_range,Dq,beq_iff_eq] at h;exact(h.2 n hn).2.symm
def sD (p:Pl):Pl×Int×Int:=
 if eD p then(if(bQ p.f 0).2.2=0 then(⟨(bQ p.f 0).1,aO p.r (bQ p.f 0).2.1.toNat 1⟩,(bQ p.f 0).2.1,0) else(jA,0,(bQ p.f 0).2.2)) else(jA,0,1)
def eH (p:Pl) (n:Int):Int:=if eD p then(if 0<=n/\n<64/\p.r n.toNat≠0 then 0 else 3) else 1
def I7 (p:Pl) (n:Int):Pl×Int:=if eH p n=0 then(if p.r n.toNat<4 then(⟨p.f,aO p.r n.toNat (p.r n.toNat+1)⟩,0) else(jA,4)) else(jA,eH p n)
def Ro (p:Pl) (n:Int):Pl×Int:=if eH p n=0 then(if 0<p.r n.toNat -1 then(⟨p.f,aO p.r n.toNat (p.r n.toNat -1)⟩,0) else(⟨(mF p.f ⟨n,0⟩).1,aO p.r n.toNat (p.r n.toNat -1)⟩,0)) else(jA,eH p n)
theorem ok_one {n:Int} (h0:0<=n) (h1:n<64):okB ⟨n,0⟩=true:=Ou (by omega) (by omega) h0 (by simp[aX];omega) (by simp[aX])
theorem Pj {n m:Int} :fP ⟨n,0⟩ m↔m=n:=by
 unfold fP;simp[aX];omega
theorem Y9 {n:Int} (h:okB ⟨n,0⟩=true):0<=n/\n<64:=by
 obtain⟨h1,h2,_⟩:=bL h;simp[aX] at h1 h2;omega
theorem aGA {p:Pl} (h:eD p=true) (ht:(bQ p.f 0).2.2=0):0<=(bQ p.f 0).2.1/\(bQ p.f 0).2.1<64/\p.r (bQ p.f 0).2.1.toNat=0:=by
 obtain⟨h1,h2,h3,h4,h5⟩:=Ub ht;obtain⟨r1,r2⟩:=Y9 h3;refine⟨r1,r2,?_⟩;have h6:=h5 _ (Pj.2 rfl);have h7:=vJ h (n:=(bQ p.f 0).2.1.toNat) (by omega);rw[Bool.eq_iff_iff,qM,show(((bQ p.f 0).2.1.toNat:Nat):Int)=(bQ p.f 0).2.1 by omega] at h7;simpa using h7.1 h6
theorem Ku {p:Pl} {n:Int} (h:eH p n=0):eD p=true/\0<=n/\n<64/\p.r n.toNat≠0:=by
 unfold eH at h;split at h
 ·next hr=>
  split at h
  ·next h2=>exact⟨hr,h2⟩
  ·omega
 ·omega
theorem aAM {p:Pl} {n:Int} (h:eH p n=0):mF p.f ⟨n,0⟩=(Gz p.f ⟨n,0⟩,0):=by
 obtain⟨hr,h1,h2,h3⟩:=Ku h;refine aLK (wU (aBX hr)) (ok_one h1 h2) (aG8.2 λm hm hc=> ?_);rw[Pj] at hm;subst hm;have h7:=vJ hr (n:=m.toNat) (by omega);rw[Bool.eq_iff_iff,qM,show((m.toNat:Nat):Int)=m by omega] at h7;exact h3 (by simpa using h7.1 hc)
end Go.Proofs.YtoogfmbojlpjaaaGreat
namespace Go.Proofs.YtoogfmbojlpjaaaGreat
open Go.ChangeShapes Go.WideShapes Go.ChangeAt Go.RowKit Go.Joins Go.Sort
theorem Bv.nil {w:World} :Bv w (.slice none 0 0) []:=⟨none,0,0,rfl,Rw.nil,by omega⟩
end Go.Proofs.YtoogfmbojlpjaaaGreat
namespace Go.Proofs.YtoogfmbojlpjaaaGreat
theorem T9 (r:Nat->Int) (j:Nat) (x y:Int):aO (aO r j x) j y=aO r j y:=by
 funext i;unfold aO;split<;>rfl
theorem Nt {r:Nat->Int} {j:Nat} {x:Int} (h:r j=x):aO r j x=r:=by
 funext i;unfold aO;split
 ·next e=>rw[e,h]
 ·rfl
theorem vH (r:Nat->Int) (j:Nat) (x:Int):aO r j x j=x:=by unfold aO;rw[if_pos rfl]
theorem aAi {r:Nat->Int} (h:∀n,n<64->0<=r n):eD (gJ r)=true:=sH.2 ⟨h,rfl⟩
def aB9 (p:Pl):Pl×Int×Int:=
 if eD p then(if(bQ p.f 0).2.2=0 then(gJ (aO p.r (bQ p.f 0).2.1.toNat 1),(bQ p.f 0).2.1,0) else(jA,0,(bQ p.f 0).2.2)) else(jA,0,1)
def Ac (p:Pl) (n by':Int):Pl×Int:=
 if eD p then(if 0<=n/\n<64/\p.r n.toNat≠0 then(if 0<by'/\4<=p.r n.toNat then(jA,4) else(gJ (aO p.r n.toNat (p.r n.toNat+by')),0)) else(jA,3)) else(jA,1)
theorem aKN {p:Pl} (h:eD p=true) (ht:(bQ p.f 0).2.2=0):(bQ p.f 0).1=canon λm=>aO p.r (bQ p.f 0).2.1.toNat 1 m==0:=by
 obtain⟨h1,h2,h3,h4,h5⟩:=Ub ht;obtain⟨r1,r2⟩:=Y9 h3;refine(Ak h2 λn hn=> ?_).symm;rw[h4,Pj];have h7:=vJ h hn;rw[Bool.eq_iff_iff,qM] at h7;unfold aO;split
 ·next e=>simp;omega
 ·next e=>
  rw[h7];simp;intro _;omega
theorem aKO (p:Pl):sD p=aB9 p:=by
 unfold sD aB9;split
 ·next h=>
  split
  ·next ht=>rw[aKN h ht];rfl
  ·rfl
 ·rfl
theorem Xv {l:List aH} :∀ {f:Nat} {o:Int},yY l f o=none->∀x∈l,o<=x.o->x.o<o+f->False
 |0,o,h,x,hx,h1,h2=>by omega
 |f+1,o,h,x,hx,h1,h2=>by
  unfold yY at h;cases hf:l.find? (λb=>b.o==o) with
  |some c=>rw[hf] at h;cases h
  |none=>
   rw[hf] at h;have:=List.find?_eq_none.1 hf x hx;simp only[beq_iff_eq] at this;exact Xv h x hx (by omega) (by omega)
theorem aGz {p:Pl} (h:eD p=true) (ht:(bQ p.f 0).2.2≠0):(bQ p.f 0).2.2=4/\p.f=[]:=by
 have hr:=aBX h;rw[aBz,hr,if_pos rfl,if_pos (by omega)] at ht⊢;cases hb:Ls p.f 0 with
 |some b=>rw[hb] at ht;exact absurd rfl ht
 |none=>
  refine⟨rfl,?_⟩;cases hl:p.f with
  |nil=>rfl
  |cons x l=>
   exfalso;have hx:x∈p.f:=by rw[hl];simp
   have hok:=bL ((wU hr).1 x hx);exact Xv hb x hx (by omega) (by omega)
theorem aLL {p:Pl} (h:eD p=true) (hf:p.f=[]) {n:Nat} (hn:n<64):p.r n≠0:=by
 have:=vJ h hn;rw[hf] at this;simp[kC] at this;exact this
theorem aIp (p:Pl) (n:Int):I7 p n=Ac p n 1:=by
 unfold I7 Ac eH;by_cases hr:eD p=true
 ·simp only[hr,if_true]
  by_cases h2:0<=n/\n<64/\p.r n.toNat≠0
  ·rw[if_pos h2,if_pos rfl,if_pos h2]
   by_cases h4:p.r n.toNat<4
   ·rw[if_pos h4,if_neg (by omega)]
    have h5:=(sH.1 hr).1 n.toNat (by omega);have h6:=(sH.1 hr).2;rw[h6];unfold gJ;refine congrArg (λl=>((⟨l,_⟩:Pl),(0:Int))) (Bf λm hm=> ?_);unfold aO;split
    ·next e=>
     subst e;rw[Bool.eq_iff_iff];simp;omega
    ·rfl
   ·rw[if_neg h4,if_pos ⟨by omega,by omega⟩]
  ·rw[if_neg h2,if_neg (by omega),if_neg h2]
 ·simp[hr]
theorem drop_eq (p:Pl) (n:Int):Ro p n=Ac p n (-1):=by
 have hg:=aAM (p:=p) (n:=n);unfold Ro Ac;by_cases hr:eD p=true
 ·by_cases h2:0<=n/\n<64/\p.r n.toNat≠0
  ·have hm:eH p n=0:=by unfold eH;rw[hr,if_pos rfl,if_pos h2]
   have h5:=(sH.1 hr).1 n.toNat (by omega);have h6:=(sH.1 hr).2;rw[if_pos hm,if_pos hr,if_pos h2,if_neg (show¬((0:Int)< -1/\4<=p.r n.toNat) by omega),hg hm];by_cases h4:0<p.r n.toNat -1
   ·rw[if_pos h4]
    rw[h6];unfold gJ;refine congrArg (λl=>((⟨l,_⟩:Pl),(0:Int))) (Bf λm hm=> ?_);unfold aO;split
    ·next e=>
     subst e;rw[Bool.eq_iff_iff];simp;omega
    ·rfl
   ·rw[if_neg h4]
    unfold gJ;refine congrArg (λl=>((⟨l,_⟩:Pl),(0:Int))) ?_;refine(Bf λm hm=> ?_);rw[vJ hr hm];unfold aO;rw[Bool.eq_iff_iff,Bool.or_eq_true,uT,Pj];split
    ·next e=>
     subst e;simp;omega
    ·next e=>simp;omega
  ·have hm:eH p n=3:=by unfold eH;rw[hr,if_pos rfl,if_neg h2]
   rw[hm,if_neg (by omega),if_pos hr,if_neg h2]
 ·have hm:eH p n=1:=by unfold eH;rw[if_neg hr]
  rw[hm,if_neg (by omega),if_neg hr]
theorem aAU {r:Nat->Int} (h:∀n,n<64->0<=r n) {n:Int} (h0:0<=n) (h1:n<64) (h2:r n.toNat≠0) {by':Int} (h3:¬(0<by'/\4<=r n.toNat)):Ac (gJ r) n by'=(gJ (aO r n.toNat (r n.toNat+by')),0):=by
 unfold Ac;rw[aAi h,if_pos rfl,if_pos ⟨h0,h1,h2⟩];show(if 0<by'/\4<=r n.toNat then(jA,4) else(gJ (aO r n.toNat (r n.toNat+by')),0))=_;rw[if_neg h3]
end Go.Proofs.YtoogfmbojlpjaaaGreat
namespace Go.Proofs.YtoogfmbojlpjaaaGreat
open Go.Shelf Go.ChangeShapes Go.WideShapes Go.ChangeAt Go.RowKit Go.Joins Go.Sort
def Ya:Type:= {x:aC//0<=x.f/\x.f<=64}
instance:Inhabited Ya:=⟨⟨default,by decide,by decide⟩⟩
def aBp (y:Ya):aC:=y.1
def aFO (y:Ya):List Value:=fR y.1
def cfB (x y:Ya):Int:=x.1.f -y.1.f
theorem ltB (x y:Ya):ltOf cfB x y=decide (x.1.f<y.1.f):=by
 unfold ltOf cfB;exact decide_eq_decide.2 (by omega)
theorem aOj:SWO (ltOf cfB) where
 irrefl x:=by rw[ltB];simp
 trans x y z h1 h2:=by rw[ltB] at*;simp at*;omega
 ntrans x y z h1 h2:=by rw[ltB] at*;simp at*;omega
theorem aOc (x y:aC) (hx:0<=x.f/\x.f<=64) (hy:0<=y.f/\y.f<=64) (W:World):Calls Tryz.prog 167 #[.agg #[.int .i64 x.f,.int .i64 x.t,.int .i64 x.a.r,.int .i64 x.a.k,.bool x.a.g,.bool x.a.s],.agg #[.int .i64 y.f,.int .i64 y.t,.int .i64 y.a.r,.int .i64 y.a.k,.bool y.a.g,.bool y.a.s]] W λe w'=>e=.returned (.int .i64 (x.f -y.f))/\∃q os',w'=grow (W.drewN q) os':=by
 obtain⟨h1,h2⟩:=hx;obtain⟨h3,h4⟩:=hy;go_enter Tryz.func167,Tryz.ntmps167;go_wp2;go_ret;exact⟨iR (by first|rfl|(unfold wrap64;omega)),0,_,by rw[alloc_eq_grow,alloc_eq_grow,grow_grow];rfl⟩
theorem aO6 (blk off size:Nat) (w:World):CmpLays Tryz.prog 167 #[] aFO 6 cfB blk off size w:=
 λ_ _ _ _ x y=>aOc x.1 y.1 x.2 y.2 _
theorem aMg (v:Value) (xs:List aC) (w:World) (base:Nat) (h:Os fR 6 99 w base v xs) (hx:∀x∈xs,0<=x.f/\x.f<=64) (hn:xs.length<=1000000) (hb:base<=w.heap.size):
 Calls Tryz.prog 166 #[v,.func (.func 167) #[] #[]] w λe w'=>e=.returned (.tuple #[])/\∃ys,ys.Perm xs/\vQ ys/\Os fR 6 99 w' base v ys/\Go.RowKit.Below base w w':=by
 have hh:=h;obtain⟨h1,⟨rfl,h0⟩|⟨g,cap,cur,rfl,hg,hgh,_⟩⟩:=h
 ·refine(AnyF.slices_SortFunc_none aKf none 0 _ w).mono ?_
  rintro e w' ⟨rfl,rfl⟩;exact⟨rfl,xs,List.Perm.refl _,by rw[List.eq_nil_of_length_eq_zero h0];exact List.Pairwise.nil,hh,Go.RowKit.Below.refl _ _⟩
 ·obtain⟨d,hd⟩:∃d:Array Ya,d.toList.map aBp=xs:=⟨(xs.attachWith (λx=>0<=x.f/\x.f<=64) hx).toArray,List.attachWith_map_subtype_val hx⟩
  have hds:d.size=xs.length:=by rw[<-hd];simp
  have hH:=aB3 (β:=Ya) (enc:=aFO) gZ (by decide) aBp (λ_=>rfl) hh d hd;have hc:=AnyQ.slices_SortFunc (α:=Ya) aKf 6 Tryz.isAgg99 Tryz.sizeOf99 aFO (λ_=>rfl) (λx=>Rm x.1) cfB aOj 167 #[] g 0 cap d w (enters_of Tryz.func167 (by kernel_rfl) rfl) (aO6 _ _ _ w) hH (kM hgh) (by rw[hds];omega);rw[hds] at hc;refine Calls.mono hc ?_;rintro e w' ⟨rfl,d',n,os,hp,hs,rfl⟩;have hsz:d'.size=xs.length:=by rw[<-hds];exact hp.1
  have hso:=aAs (β:=Ya) (enc:=aFO) gZ (by decide) aBp (λ_=>rfl) hh d' hsz n os;refine⟨rfl,d'.toList.map aBp,?_,?_,hso.1,hso.2⟩
  ·have:=(aAn (by rw[hds];exact hp)).map aBp
   rwa[hd] at this
  ·have hs2:=Sa (d:=d') (by rw[hsz];exact hs)
   unfold vQ;rw[List.pairwise_map];refine hs2.imp λ{a b} h=> ?_;rw[ltB] at h;simp at h;exact h
end Go.Proofs.YtoogfmbojlpjaaaGreat
namespace Go.Proofs.YtoogfmbojlpjaaaGreat
open Go.ChangeShapes Go.WideShapes Go.ChangeAt Go.RowKit Go.Joins
theorem Lu {ops:Array Oper} {rest:List Oper} {o:Oper} {a:Act} {Q:Exit->Act->World->Prop} (hgd:o.guard=none) (s x:Operand) (ho:o.op=.call { callee:=.builtin .append,args:= #[s,x],argTypes:= #[37,37] })
 (base:Nat) (v:Value) (t:List aC) (W:World) (c:aC) (gx:Nat) (hs:a.eval s=v) (hx:a.eval x=.slice (some ⟨gx,0,none⟩) 1 1) (hgx:gx=W.heap.size) (hos:Os fR 6 99 W base v t) (hb:base<=W.heap.size) (hlen:t.length+1<=1000000)
 (hK:∀g' c' w',Os fR 6 99 w' base (.slice (some ⟨g',0,none⟩) (t.length+1) c') (t++ [c])->Below base W w'->base<=g'->t.length+1<=c'->c'<=maxLen->wpList Tryz.prog ops Q rest (a.put o.dst (.slice (some ⟨g',0,none⟩) (t.length+1) c')) w'):
 wpList Tryz.prog ops Q (o::rest) a (W.alloc (.cells #[.int .i64 c.f,.int .i64 c.t,.int .i64 c.a.r,.int .i64 c.a.k,.bool c.a.g,.bool c.a.s] 99)):=
 nW Tryz.underlying37 aCo rfl (by decide) gZ Rm hgd s x ho base v t W c gx hs hx hgx hos hb (by unfold maxLen;omega) (by omega) hK
theorem aFc {α:Type} {f:α->List Value} {sz:Nat} {T:TypeId} {w:World} {base n c:Nat} {A:Option Addr} {xs:List α} (h:Os f sz T w base (.slice A n c) xs) (hn:0<xs.length):∃g,A=some ⟨g,0,none⟩:=by
 obtain⟨_,⟨e,h0⟩|⟨g,cap,cur,e,_⟩⟩:=h
 ·omega
 ·injection e with e _ _;exact⟨g,e⟩
theorem aGc {m n:Nat} (h:m+1<=n) (hn:n<=1000):wrap64 (m:Int)=(m:Int)/\IntKind.i64.wrap (m:Int)=(m:Int):=⟨by unfold wrap64;omega,by rw[IntKind.wrap_i64];omega⟩
theorem aFn {jk:List aC} (h:jk≠ []):∃m p,jk.length=m+1/\jk[m]? =some p/\(∀x:aC,(p.t==x.f&&zM p.a x.a)=false->stepJ jk x=jk++ [x])/\(∀x:aC,(p.t==x.f&&zM p.a x.a)=true->stepJ jk x=jk.set m ⟨p.f,x.t,p.a⟩):=by
 rcases List.eq_nil_or_concat jk with rfl|⟨q,p,rfl⟩
 ·exact absurd rfl h
 ·rw[List.concat_eq_append]
  exact⟨q.length,p,by simp,by simp,λx hx=>Ud hx,λx hx=>by rw[N9 hx];simp⟩
theorem aFo (v:Value) (xs:List aC) (w:World) (base:Nat) (h:Os fR 6 99 w base v xs) (hx:∀x∈xs,0<=x.f/\x.f<=64) (hn:xs.length<=1000) (hb:base<=w.heap.size):
 Calls Tryz.prog 143 #[v] w λe w'=>∃ys v',e=.returned v'/\ys.Perm xs/\vQ ys/\Os fR 6 99 w' w.heap.size v' (joinL ys)/\Below base w w':=by
 have hsort:=aMg v xs w base h hx (by omega) hb;obtain⟨A,c,rfl,hc1,hc2⟩:=h.form;clear h hx hc1 hc2;go_enter Tryz.func143,Tryz.ntmps143;go_wp2_with(go_at_call 166;refine hsort.mono ?_;rintro e w1 ⟨rfl,ys,hp,Gu,ho,hb1⟩)
 have hys:ys.length=xs.length:=hp.length_eq;have hw1:w.heap.size<=w1.heap.size:=hb1.size;have FIN:=hZ (λ(v':Value) (w':World) (h1:Os fR 6 99 w' w1.heap.size v' (joinL ys)) (h2:Below w1.heap.size w1 w')=>(⟨ys,v',rfl,hp,Gu,h1.gD hw1,hb1.trans (h2.mono (Nat.le_trans hb hw1))⟩:∃ys v'',Ending.returned v'=.returned v''/\ys.Perm xs/\vQ ys/\Os fR 6 99 w' w.heap.size v'' (joinL ys)/\Below base w w'));obtain⟨A1,c1,e1,hz1,hz2,hrw⟩:=ho.row gZ;clear hz1 hz2;injection e1 with e1 e2 e3;subst e1 e3;clear e2;rw[hys] at hrw;have HX:=hZ (λ(i:Nat) (hi:i<xs.length)=>(⟨ys[i]'(by omega),List.getElem?_eq_getElem _⟩:∃x,ys[i]? =some x));have HZ:=hZ hrw;have HJS:=hZ (λ(k:Nat) (x:aC) (h:ys[k]? =some x)=>(congrArg joinL (r9 h)).trans (aFp (ys.take k) x));have HJL:=hZ (λ(k:Nat) (hk:k<=xs.length)=>(show(joinL (ys.take k)).length<=xs.length from Nat.le_trans (aHf _) (by rw[List.length_take];omega)));have HJN:Hid (joinL (ys.take xs.length)=joinL ys):=hZ (by rw[List.take_of_length_le (by omega)]);have HJ0:Hid (joinL (ys.take 0)=[]):=hZ rfl;have HA:Hid (0<xs.length->∃b off,A=some ⟨b,off,none⟩/\b<w1.heap.size):=hZ (λh=>HZ.out.open h);obtain⟨fj,hfj⟩:∃f:Nat->List aC,f=λk=>joinL (ys.take k):=⟨_,rfl⟩;have FJS:Hid (∀k x,ys[k]? =some x->fj (k+1)=stepJ (fj k) x):=hZ (by rw[hfj];exact HJS.out);have FJL:Hid (∀k,k<=xs.length->(fj k).length<=xs.length):=hZ (by rw[hfj];exact HJL.out);have FJN:Hid (fj xs.length=joinL ys):=hZ (by rw[hfj];exact HJN.out);have FJ0:Hid (fj 0=[]):=hZ (by rw[hfj];exact HJ0.out);generalize joinL ys=jl at*;generalize xs.length=n at*;clear hfj HJS HJL HJN HJ0 ho hrw hp Gu hb1 hsort hys;go_loopw [3,6,11] (λv3 v6 i wr=>∃k:Nat,k<=n/\i=.int .i64 k/\Hid (Os fR 6 99 wr w1.heap.size v3 (fj k))/\Hid (Below w1.heap.size w1 wr)) (λ_ _ i _=>n - (intOf i).toNat)
 case atStart=>exact⟨0,by omega,rfl,hZ (by rw[FJ0.out];exact Os.nil),hZ (Below.refl _ _)⟩
 case round=>
  obtain⟨k,hk,rfl,HO,HB⟩:=hrel;have hsz:=HB.out.size;by_cases hlt:k<n
  ·obtain⟨x,hx⟩:=HX.out k hlt
   obtain⟨b,off,q8,hbb⟩:=HA.out (by omega);subst q8;have hcs:=(HZ.out.below HB.out).at_ gZ hx;have Ec:wr.cell? ⟨b,off+k*6,none⟩=some (.int .i64 x.f):=hcs 0 _ rfl;have Eb:wr.cell? ⟨b,off+k*6+1,none⟩=some (.int .i64 x.t):=hcs 1 _ rfl;have Vo:wr.cell? ⟨b,off+k*6+2,none⟩=some (.int .i64 x.a.r):=hcs 2 _ rfl;have xc3:wr.cell? ⟨b,off+k*6+3,none⟩=some (.int .i64 x.a.k):=hcs 3 _ rfl;have xc4:wr.cell? ⟨b,off+k*6+4,none⟩=some (.bool x.a.g):=hcs 4 _ rfl;have xc5:wr.cell? ⟨b,off+k*6+5,none⟩=some (.bool x.a.s):=hcs 5 _ rfl;have HJK:=hZ (FJS.out k x hx);have hjl:=FJL.out k hk;clear hcs hx;have zO:Hid (Os fR 6 99 (wr.alloc (.cells #[.int .i64 x.f,.int .i64 x.t,.int .i64 x.a.r,.int .i64 x.a.k,.bool x.a.g,.bool x.a.s] 99)) w1.heap.size u3 (fj k)):=hZ (HO.out.below ((Below.refl wr.heap.size wr).alloc (nR _) _) (nR _));generalize fj k=jk at*;rcases Nat.eq_zero_or_pos jk.length with he|he
   ·obtain rfl:=List.eq_nil_of_length_eq_zero he
    obtain⟨A3,c3,hu3,hz1,hz2⟩:=zO.out.form;clear hz1 hz2;rw[List.length_nil] at hu3;subst hu3;clear he;have HJ:Hid (fj (k+1)=[x]):=HJK;go_wp2
    go_quiet (fail)
    go_wp2_with(at_builtin;refine Lu rfl _ _ rfl w1.heap.size (.slice A3 0 c3) [] ((wr.alloc (.cells #[.int .i64 x.f,.int .i64 x.t,.int .i64 x.a.r,.int .i64 x.a.k,.bool x.a.g,.bool x.a.s] 99)).drewN _) x (wr.heap.size+1) rfl rfl (by simp) (zO.out.below (below_drewN _ _ _) (nR _)) (by simp;omega) (by have:=List.length_nil (α:=aC);omega) ?_;intro g' c' w' ho2 hb2 hbg hcc hmx)
    have rX:=hZ ho2;have HB3:=hZ (((HB.out.alloc hsz (.cells #[.int .i64 x.f,.int .i64 x.t,.int .i64 x.a.r,.int .i64 x.a.k,.bool x.a.g,.bool x.a.s] 99)).trans (below_drewN _ _ _)).trans hb2);clear ho2 hb2;go_wp2;go_roundw
    case rel=>exact⟨k+1,by omega,by go_num,hZ (by rw[HJ.out];exact rX.out),hZ (by exact HB3.out)⟩
    case measure=>simp[intOf];omega
   ·obtain⟨m,p,Mi,hp0,hno,aMY⟩:=aFn (jk:=jk) (λe=>by rw[e] at he;simp at he)
    obtain⟨A3,c3,hu3,hz1,hz2⟩:=zO.out.form;clear hz1 hz2;rw[Mi] at hu3;subst hu3;obtain⟨g,rfl⟩:=aFc zO.out he;rw[Mi] at hjl;have HML:=hZ Mi;have HNO:=hZ hno;have aPe:=hZ aMY;have hps:=HO.out.cells gZ hp0;obtain⟨hgl,hgb,hz1,hz2,hz3⟩:=HO.out.vP;clear hz1 hz2 hz3;have aPl:=hZ (λ(W':World) (hb:Below wr.heap.size wr W')=>(HO.out.below hb (nR _)).aBL (y:=⟨p.f,x.t,p.a⟩) (u:=.int .i64 x.t) gZ (by decide) 1 hp0 rfl (λmm vv hm hv=>by
     match mm,hm,hv with
     |0,_,hv=>exact hv
     |2,_,hv=>exact hv
     |3,_,hv=>exact hv
     |4,_,hv=>exact hv
     |5,_,hv=>exact hv
     |(mm+6),_,hv=>simp[fR] at hv))
    have hfz:wr.frozen? ⟨g,m*6+1,none⟩=false:=(hps 1 _ rfl).2;have pc0:wr.cell? ⟨g,m*6,none⟩=some (.int .i64 p.f):=(hps 0 _ rfl).1;have pc1:wr.cell? ⟨g,m*6+1,none⟩=some (.int .i64 p.t):=(hps 1 _ rfl).1;have pc2:wr.cell? ⟨g,m*6+2,none⟩=some (.int .i64 p.a.r):=(hps 2 _ rfl).1;have pc3:wr.cell? ⟨g,m*6+3,none⟩=some (.int .i64 p.a.k):=(hps 3 _ rfl).1;have pc4:wr.cell? ⟨g,m*6+4,none⟩=some (.bool p.a.g):=(hps 4 _ rfl).1;have pc5:wr.cell? ⟨g,m*6+5,none⟩=some (.bool p.a.s):=(hps 5 _ rfl).1;have hm0:(0:Int)<=(m:Int):=by omega
    have hm1:(m:Int)<(m:Int)+1:=by omega
    have hm2:m<m+1:=by omega
    have hmw:wrap64 (m:Int)=(m:Int):=(aGc hjl hn).1;have hmv:IntKind.i64.wrap (m:Int)=(m:Int):=(aGc hjl hn).2;clear hps hp0 Mi hno aMY he;cases h5:(p.t==x.f) with
    |false=>
     have HJ:Hid (fj (k+1)=jk++ [x]):=hZ (by rw[HJK.out,HNO.out x (by rw[h5];rfl)]);go_wp2
     go_quiet (fail)
     go_wp2_with(at_builtin;refine Lu rfl _ _ rfl w1.heap.size (.slice (some ⟨g,0,none⟩) (m+1) c3) jk ((wr.alloc (.cells #[.int .i64 x.f,.int .i64 x.t,.int .i64 x.a.r,.int .i64 x.a.k,.bool x.a.g,.bool x.a.s] 99)).drewN _) x (wr.heap.size+1) rfl rfl (by simp) (zO.out.below (below_drewN _ _ _) (nR _)) (by simp;omega) (by have:=HML.out;omega) ?_;intro g' c' w' ho2 hb2 hbg hcc hmx)
     have rX:=hZ ho2;have HB3:=hZ (((HB.out.alloc hsz (.cells #[.int .i64 x.f,.int .i64 x.t,.int .i64 x.a.r,.int .i64 x.a.k,.bool x.a.g,.bool x.a.s] 99)).trans (below_drewN _ _ _)).trans hb2);clear ho2 hb2;go_wp2;go_roundw
     case rel=>exact⟨k+1,by omega,by go_num,hZ (by rw[HJ.out];exact rX.out),hZ (by exact HB3.out)⟩
     case measure=>simp[intOf];omega
    |true=>
     have hqA:∀w,(Op.equalIn 10000 97 (.agg #[.int .i64 p.a.r,.int .i64 p.a.k,.bool p.a.g,.bool p.a.s]) (.agg #[.int .i64 x.a.r,.int .i64 x.a.k,.bool x.a.g,.bool x.a.s])).run Tryz.prog w=.ok (zM p.a x.a) w:=aD7 p.a x.a;cases h6:zM p.a x.a with
     |false=>
      rw[h6] at hqA;have HJ:Hid (fj (k+1)=jk++ [x]):=hZ (by rw[HJK.out,HNO.out x (by rw[h5,h6];rfl)]);go_wp2
      go_quiet (fail)
      go_wp2_with(at_builtin;refine Lu rfl _ _ rfl w1.heap.size (.slice (some ⟨g,0,none⟩) (m+1) c3) jk ((wr.alloc (.cells #[.int .i64 x.f,.int .i64 x.t,.int .i64 x.a.r,.int .i64 x.a.k,.bool x.a.g,.bool x.a.s] 99)).drewN _) x (wr.heap.size+1) rfl rfl (by simp) (zO.out.below (below_drewN _ _ _) (nR _)) (by simp;omega) (by have:=HML.out;omega) ?_;intro g' c' w' ho2 hb2 hbg hcc hmx)
      have rX:=hZ ho2;have HB3:=hZ (((HB.out.alloc hsz (.cells #[.int .i64 x.f,.int .i64 x.t,.int .i64 x.a.r,.int .i64 x.a.k,.bool x.a.g,.bool x.a.s] 99)).trans (below_drewN _ _ _)).trans hb2);clear ho2 hb2;go_wp2;go_roundw
      case rel=>exact⟨k+1,by omega,by go_num,hZ (by rw[HJ.out];exact rX.out),hZ (by exact HB3.out)⟩
      case measure=>simp[intOf];omega
     |true=>
      rw[h6] at hqA;have HJ:Hid (fj (k+1)=jk.set m ⟨p.f,x.t,p.a⟩):=hZ (by rw[HJK.out,aPe.out x (by rw[h5,h6];rfl)]);go_wp2
      go_quiet (fail)
      go_wp2;go_roundw
      case rel=>exact⟨k+1,by omega,by go_num,hZ (by rw[HJ.out];exact aPl.out _ (((Below.refl wr.heap.size wr).alloc (nR _) _).trans (below_drewN _ _ _))),hZ (((HB.out.alloc hsz _).trans (below_drewN _ _ _)).setCell (p:=⟨g,m*6+1,none⟩) hgb _)⟩
      case measure=>simp[intOf];omega
  ·have hkn:k=n:=by omega
   subst hkn;have rX:=HO.out;rw[FJN.out] at rX;go_wp2;go_ret;exact FIN.out _ _ rX HB.out
theorem Ue (a b:Int) (w:World):Calls Tryz.prog 142 #[.int .i64 a,.int .i64 b] w λe w'=>e=.returned (.bool (nP a b))/\w'=w:=by
 by_cases h1:0<=a
 ·by_cases h2:a<b
  ·by_cases h3:b<=64
   ·have HS:Hid (nP a b=true):=hZ (uN.2 ⟨h1,h2,h3⟩)
    go_enter Tryz.func142,Tryz.ntmps142;go_wp2;go_ret;exact⟨bH (by rw[HS.out]),rfl⟩
   ·have HS:Hid (nP a b=false):=hZ (by unfold nP;simp;omega)
    have h3':64<b:=by omega
    go_enter Tryz.func142,Tryz.ntmps142;go_wp2;go_ret;exact⟨bH (by rw[HS.out]),rfl⟩
  ·have HS:Hid (nP a b=false):=hZ (by unfold nP;simp;omega)
   have h2':b<=a:=by omega
   go_enter Tryz.func142,Tryz.ntmps142;go_wp2;go_ret;exact⟨bH (by rw[HS.out]),rfl⟩
 ·have HS:Hid (nP a b=false):=hZ (by unfold nP;simp;omega)
  have h1':a<0:=by omega
  go_enter Tryz.func142,Tryz.ntmps142;go_wp2;go_ret;exact⟨bH (by rw[HS.out]),rfl⟩
theorem Ih (v:Value) (xs:List aC) (w:World) (base:Nat) (h:Os fR 6 99 w base v xs) (hg:Good xs) (hn:xs.length<=1000) (hb:base<=w.heap.size):
 Calls Tryz.prog 143 #[v] w λe w'=>∃v',e=.returned v'/\Os fR 6 99 w' w.heap.size v' (norm xs)/\Below base w w':=
 (aFo v xs w base h (λx hx=>by have:=hg.ok x hx;omega) hn hb).mono λe w' ⟨ys,v',he,hp,hs,ho,hb'⟩=>⟨v',he,by rw[<-aLe hg hp hs];exact ho,hb'⟩
def TR (l:List aC) (E:Int) (w:World) (e:Ending) (w':World):Prop:=∃v,e=.returned (.tuple #[v,.int .i64 E])/\Os fR 6 99 w' w.heap.size v l/\Below w.heap.size w w'
theorem TR.nil {E:Int} {w w':World} (h:Below w.heap.size w w'):TR [] E w (.returned (.tuple #[.slice none 0 0,.int .i64 E])) w':=⟨_,rfl,Os.nil,h⟩
theorem Uh (A:Option Addr) (n c:Nat) (xs:List aC) (a b:Int) (w:World) (B:Nat) (hz:Rw fR 6 w B A n xs) (hB:B<=w.heap.size) (hbig:n<=140737488355328):
 Calls Tryz.prog 100 #[.slice A n c,.int .i64 a,.int .i64 b] w (TR (sP xs a b) (nV xs a b) w):=by
 have hright:=Bl A n c xs w B hz hB hbig;have NO:Hid (∀E:Int,nV xs a b=E->E≠0->∀w',Below w.heap.size w w'->TR (sP xs a b) (nV xs a b) w (.returned (.tuple #[.slice none 0 0,.int .i64 E])) w'):=hZ (λE h h0 w' hb=>by
  unfold sP;rw[h,if_neg h0];exact TR.nil hb)
 cases hr:bF xs with
 |false=>
  rw[hr] at hright;have tQ:=hZ (NO.out 1 (by unfold nV;rw[if_pos hr]) (by decide));clear hz NO hr;go_enter Tryz.func100,Tryz.ntmps100;go_wp2_with(go_at_call 140;refine hright.mono ?_;rintro e w1 ⟨rfl,hb1⟩)
  go_ret2
  exact tQ.out _ hb1
 |true=>
  rw[hr] at hright;have sM:=Ue a b;cases hs:nP a b with
  |false=>
   rw[hs] at sM;have tQ:=hZ (NO.out 2 (by unfold nV;rw[if_neg (by rw[hr];simp),if_pos hs]) (by decide));clear hz NO hr hs;go_enter Tryz.func100,Tryz.ntmps100;go_wp2_with(first
    |(go_at_call 140;refine hright.mono ?_;rintro e w1 ⟨rfl,hb1⟩)
    |(go_at_call 142;refine(sM w1).mono ?_;rintro e w2 ⟨rfl,hw2⟩;rw[hw2];clear hw2))
   go_ret2
   exact tQ.out _ hb1
  |true=>
   rw[hs] at sM;have hE:nV xs a b=0:=by unfold nV;rw[if_neg (by rw[hr];simp),if_neg (by rw[hs];simp)]
   have hL:sP xs a b=norm (gV a b xs):=by unfold sP;rw[if_pos hE]
   rw[hE,hL];obtain⟨s1,s2,s3⟩:=uN.1 hs;have hg:=Ld (fE hr) (a:=a) (b:=b) (by omega);have hol:=Kl a b xs;have hxl:=mE hr;have Cq:n<=64:=by rw[<-hz.1];exact hxl
   have HC:=hZ (λw1 (h1:Below w.heap.size w w1)=>Jk A n c xs a b w1 B (hz.below (h1.mono hB)) (Nat.le_trans hB h1.size) (by omega));have HJ:=hZ (λv w2 base (h:Os fR 6 99 w2 base v (gV a b xs)) (hb:base<=w2.heap.size)=>Ih v (gV a b xs) w2 base h hg (by omega) hb);clear hz NO hE hL hr hg hs hol hxl s1 s2 s3;generalize norm (gV a b xs)=nl at*;generalize gV a b xs=ol at*;generalize fA a b xs=il at*;go_enter Tryz.func100,Tryz.ntmps100;go_wp2_with(first
    |(go_at_call 140;refine hright.mono ?_;rintro e w1 ⟨rfl,hb1⟩)
    |(go_at_call 142;refine(sM w1).mono ?_;rintro e w2 ⟨rfl,hw2⟩;rw[hw2];clear hw2)
    |(go_at_call 119;refine(HC.out w1 hb1).mono ?_;rintro e w2 ⟨vo,vi,rfl,ho,hi,hap,hb2⟩)
    |(go_at_call 143;refine(HJ.out vo w2 _ ho hb2.size).mono ?_;rintro e w3 ⟨v3,rfl,ho3,hb3⟩))
   go_ret2
   exact⟨_,rfl,ho3.gD (Nat.le_trans hb1.size hb2.size),(hb1.trans (hb2.mono hb1.size)).trans (hb3.mono hb1.size)⟩
theorem aL5 (A:Option Addr) (n c:Nat) (xs:List aC) (x:aC) (w:World) (B:Nat) (hz:Rw fR 6 w B A n xs) (hB:B<=w.heap.size) (hbig:n<=140737488355328):
 Calls Tryz.prog 96 #[.slice A n c,.agg #[.int .i64 x.f,.int .i64 x.t,.int .i64 x.a.r,.int .i64 x.a.k,.bool x.a.g,.bool x.a.s]] w (TR (sS xs x) (rJ xs x) w):=by
 have HW0:=hZ ((Below.refl w.heap.size w).alloc (nR _) (.cells #[.int .i64 x.f,.int .i64 x.t,.int .i64 x.a.r,.int .i64 x.a.k,.bool x.a.g,.bool x.a.s] 99));have hright:=Bl A n c xs (w.alloc (.cells #[.int .i64 x.f,.int .i64 x.t,.int .i64 x.a.r,.int .i64 x.a.k,.bool x.a.g,.bool x.a.s] 99)) B (hz.below (HW0.out.mono hB)) (by simp;omega) hbig;have NO:Hid (∀E:Int,rJ xs x=E->E≠0->∀w',Below w.heap.size w w'->TR (sS xs x) (rJ xs x) w (.returned (.tuple #[.slice none 0 0,.int .i64 E])) w'):=hZ (λE h h0 w' hb=>by
  unfold sS;rw[h,if_neg h0];exact TR.nil hb)
 cases hr:bF xs with
 |false=>
  rw[hr] at hright;have tQ:=hZ (NO.out 1 (by unfold rJ;rw[if_pos hr]) (by decide));clear hz NO hr;go_enter Tryz.func96,Tryz.ntmps96;go_wp2_with(go_at_call 140;refine hright.mono ?_;rintro e w1 ⟨rfl,hb1⟩)
  go_ret2
  exact tQ.out _ (HW0.out.trans (hb1.mono (by simp)))
 |true=>
  rw[hr] at hright;have sM:=Ue x.f x.t;have Ev:∀w1,Below (w.alloc (.cells #[.int .i64 x.f,.int .i64 x.t,.int .i64 x.a.r,.int .i64 x.a.k,.bool x.a.g,.bool x.a.s] 99)).heap.size (w.alloc (.cells #[.int .i64 x.f,.int .i64 x.t,.int .i64 x.a.r,.int .i64 x.a.k,.bool x.a.g,.bool x.a.s] 99)) w1->∀j u,(fR x)[j]? =some u->w1.cell? ⟨w.heap.size,j,none⟩=some u:=λw1 hb1 j u hj=>by
   have:=qN (W:=w) (T:=99) j u hj;rw[addr_add,Nat.zero_add] at this;exact(hb1.cell (p:=⟨w.heap.size,j,none⟩) (by simp)).trans this
  have Ct:=hZ Ev;have aM0:∀w1,Below (w.alloc (.cells #[.int .i64 x.f,.int .i64 x.t,.int .i64 x.a.r,.int .i64 x.a.k,.bool x.a.g,.bool x.a.s] 99)).heap.size (w.alloc (.cells #[.int .i64 x.f,.int .i64 x.t,.int .i64 x.a.r,.int .i64 x.a.k,.bool x.a.g,.bool x.a.s] 99)) w1->w.heap.size<w1.heap.size:=λw1 hb1=>by have:=hb1.size;simp at this;omega
  have iC:=hZ aM0;have vT:=hZ (λw1 (hb1:Below (w.alloc (.cells #[.int .i64 x.f,.int .i64 x.t,.int .i64 x.a.r,.int .i64 x.a.k,.bool x.a.g,.bool x.a.s] 99)).heap.size (w.alloc (.cells #[.int .i64 x.f,.int .i64 x.t,.int .i64 x.a.r,.int .i64 x.a.k,.bool x.a.g,.bool x.a.s] 99)) w1)=>HW0.out.trans (hb1.mono (by simp)));clear Ev aM0;cases hs:nP x.f x.t with
  |false=>
   rw[hs] at sM;have tQ:=hZ (NO.out 2 (by unfold rJ;rw[if_neg (by rw[hr];simp),if_pos hs]) (by decide));clear hz NO hr hs;go_enter Tryz.func96,Tryz.ntmps96;go_wp2_with(first
    |(go_at_call 140;refine hright.mono ?_;rintro e w1 ⟨rfl,hb1⟩;have bc0:=Ct.out w1 hb1 0 _ rfl;have bc1:=Ct.out w1 hb1 1 _ rfl;have hsz:=iC.out w1 hb1;have HB:=hZ (vT.out w1 hb1);have HB1:=hZ hb1;clear hb1)
    |(go_at_call 142;refine(sM w1).mono ?_;rintro e w2 ⟨rfl,hw2⟩;rw[hw2];clear hw2))
   go_ret2
   exact tQ.out _ HB.out
  |true=>
   rw[hs] at sM;obtain⟨s1,s2,s3⟩:=uN.1 hs;have hol:=Kl x.f x.t xs;have hxl:=mE hr;have Cq:n<=64:=by rw[<-hz.1];exact hxl
   have HC:=hZ (λw1 (h1:Below w.heap.size w w1)=>Jk A n c xs x.f x.t w1 B (hz.below (h1.mono hB)) (Nat.le_trans hB h1.size) (by omega));by_cases hi0:fA x.f x.t xs=[]
   ·have hE:rJ xs x=0:=by unfold rJ;rw[if_neg (by rw[hr];simp),if_neg (by rw[hs];simp),if_pos hi0]
    have hL:sS xs x=norm (gV x.f x.t xs++ [x]):=by unfold sS;rw[if_pos hE]
    rw[hE,hL];have hg:=aCH (fE hr) s1 s2 s3;have HJ:=hZ (λv w2 base (h:Os fR 6 99 w2 base v (gV x.f x.t xs++ [x])) (hb:base<=w2.heap.size)=>Ih v (gV x.f x.t xs++ [x]) w2 base h hg (by simp;omega) hb);rw[hi0] at HC;have aPA:(gV x.f x.t xs).length<=128:=by omega
    clear hz NO hE hL hr hg hs hxl hi0 s1 s2 s3 hol;generalize norm (gV x.f x.t xs++ [x])=nl at*;generalize gV x.f x.t xs=ol at*;go_enter Tryz.func96,Tryz.ntmps96;go_wp2_with(first
     |(go_at_call 140;refine hright.mono ?_;rintro e w1 ⟨rfl,hb1⟩;have bc0:=Ct.out w1 hb1 0 _ rfl;have bc1:=Ct.out w1 hb1 1 _ rfl;have hsz:=iC.out w1 hb1;have HB:=hZ (vT.out w1 hb1);have HB1:=hZ hb1;clear hb1)
     |(go_at_call 142;refine(sM w1).mono ?_;rintro e w2 ⟨rfl,hw2⟩;rw[hw2];clear hw2)
     |(go_at_call 119;refine(HC.out w1 HB.out).mono ?_;rintro e w2 ⟨vo,vi,rfl,ho,hi,hap,hb2⟩;obtain⟨A2,c2,rfl,hz1,hz2⟩:=hi.form;clear hz1 hz2;obtain⟨A3,c3,rfl,hz1,hz2⟩:=ho.form;clear hz1 hz2;have HW2:=hZ (HB1.out.trans (hb2.mono HB1.out.size));have dc0:=Ct.out w2 HW2.out 0 _ rfl;have dc1:=Ct.out w2 HW2.out 1 _ rfl;have dc2:=Ct.out w2 HW2.out 2 _ rfl;have dc3:=Ct.out w2 HW2.out 3 _ rfl;have dc4:=Ct.out w2 HW2.out 4 _ rfl;have dc5:=Ct.out w2 HW2.out 5 _ rfl;have hsz2:=iC.out w2 HW2.out;have aM4:=hb2.size;have HO:=hZ ho;have HB2:=hZ hb2;clear ho hi hap hb2 bc0 bc1)
     |(at_builtin;refine Lu rfl _ _ rfl w1.heap.size (.slice A3 ol.length c3) ol w2 x w2.heap.size rfl rfl rfl HO.out aM4 (by omega) ?_;intro g' c' w3 ho3 hb3 hbg hcc hmx))
    have hj:=HJ.out _ w3 w1.heap.size ho3 (Nat.le_trans aM4 hb3.size);have HB3:=hZ hb3;have aPy:=hb3.size;clear ho3 hb3 hmx hcc;go_wp2_with(go_at_call 143;refine hj.mono ?_;rintro e w4 ⟨v4,rfl,jH,hb4⟩)
    go_ret2
    exact⟨_,rfl,jH.gD (by omega),((HB.out.trans (HB2.out.mono (by omega))).trans (HB3.out.mono (by omega))).trans (hb4.mono (by omega))⟩
   ·have tQ:=hZ (NO.out 7 (by unfold rJ;rw[if_neg (by rw[hr];simp),if_neg (by rw[hs];simp),if_neg hi0]) (by decide))
    have hil:0<(fA x.f x.t xs).length:=List.length_pos_iff.2 hi0;clear hz NO hr hs hxl hi0 s1 s2 s3 hol;generalize fA x.f x.t xs=il at*;go_enter Tryz.func96,Tryz.ntmps96;go_wp2_with(first
     |(go_at_call 140;refine hright.mono ?_;rintro e w1 ⟨rfl,hb1⟩;have bc0:=Ct.out w1 hb1 0 _ rfl;have bc1:=Ct.out w1 hb1 1 _ rfl;have hsz:=iC.out w1 hb1;have HB:=hZ (vT.out w1 hb1);have HB1:=hZ hb1;clear hb1)
     |(go_at_call 142;refine(sM w1).mono ?_;rintro e w2 ⟨rfl,hw2⟩;rw[hw2];clear hw2)
     |(go_at_call 119;refine(HC.out w1 HB.out).mono ?_;rintro e w2 ⟨vo,vi,rfl,ho,hi,hap,hb2⟩;obtain⟨A2,c2,rfl,hz1,hz2⟩:=hi.form;clear hz1 hz2))
    go_ret2
    exact tQ.out _ (HB.out.trans (hb2.mono (by omega)))
end Go.Proofs.YtoogfmbojlpjaaaGreat
