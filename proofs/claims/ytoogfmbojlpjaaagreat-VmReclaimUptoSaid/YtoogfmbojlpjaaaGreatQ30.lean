/- Lemmas. -/
import Derived.Shelf.Abstract
import Derived.Test.YtoogfmbojlpjaaaGreatQ18
import Derived.Test.YtoogfmbojlpjaaaGreatQ12
import Derived.Test.YtoogfmbojlpjaaaGreatQ6
import Derived.Test.YtoogfmbojlpjaaaGreatQ2
import Derived.Test.YtoogfmbojlpjaaaGreatQ10
import Derived.Test.YtoogfmbojlpjaaaGreatQA
set_option maxRecDepth 100000
set_option maxHeartbeats 32000000
set_option linter.unusedVariables false
set_option linter.unusedSimpArgs false
namespace Go.Proofs.YtoogfmbojlpjaaaGreat
open Go.ChangeShapes Go.WideShapes Go.ChangeAt Go.RowKit Go.Joins
theorem aJm (w:World) (a:Option Addr) (n c n' c':Nat):(binOp .eql 59 (.slice a n c) (.slice none n' c')).run Tryz.prog w=.ok (.bool a.isNone) w:=Lib.run_eql_slice_nil w _ _ a n c n' c' Tryz.underlying59
theorem aLZ (A:Option Addr) (n c:Nat) (xs:List lG) (w:World) (B:Nat) (hz:Rw fS 3 w B A n xs) (_:B<=w.heap.size) (hbig:n<=2513169434916):
 Calls Tryz.prog 153 #[.slice A n c] w λe w'=>∃v,e=.returned v/\Os fS 3 71 w' w.heap.size v xs/\Below w.heap.size w w':=by
 have q:=aJm;have hln:=hz.1;subst hln;cases A with
 |none=>
  have h0:xs=[]:=by
   rcases Nat.eq_zero_or_pos xs.length with h|h
   ·exact List.eq_nil_of_length_eq_zero h
   ·obtain⟨_,_,e,_⟩:=hz.2.2 h;cases e
  subst h0;clear hz;go_enter Tryz.func153,Tryz.ntmps153;go_wp2;go_ret;exact⟨_,rfl,Os.nil,Below.refl _ _⟩
 |some x=>
  obtain⟨i0,hi,hz0,hz1,hz2⟩:=info_parts aHh;obtain⟨hl,hcell⟩:=Rw.cells kK (by decide) hz;have HC:=hZ hcell;have HL:=hZ hl;clear hcell hl hz;go_enter Tryz.func153,Tryz.ntmps153;go_wp2_with(at_builtin;refine wpList_append_own _ rfl _ _ 59 rfl w.heap.size 71 i0 (.agg #[.int .i64 0,.slice none 0 0,.slice none 0 0]) 3 56 Tryz.underlying59 hi hz0 hz1 hz2 rfl (by decide) _ _ _ rfl (World.ownsRow_made w #[] 0 (nR _) (Nat.zero_le _) rfl) x xs.length c (xs.flatMap fS) rfl ?qc1 ?qc2 ?qc3 ?qc4 ?qc5 ?qc6 ?_)
  case qc1=>exact HL.out
  case qc2=>
   intro j u hj;exact Lib.cell?_alloc_some _ (HC.out j u hj)
  case qc3=>exact aNq xs
  case qc4=>unfold maxLen;omega
  case qc5=>omega
  case qc6=>simp
  intro v' w1 hown hgrow hnil;go_wp2;go_ret;exact⟨v',rfl,by simpa[Os] using hown,((Below.refl _ w).alloc (nR _) _).grown hgrow (by simp) (by intro k hk;simp[Value.ownBlock] at hk;omega)⟩
def aKu (g:Nat) (lb:Array Value) (p:lG->Bool) (base:Nat) (w:World):Prop:=
 ∀(W:World) (x:lG),Below base w W->Calls Tryz.prog g (#[.agg #[.int .i64 x.r,.slice x.bA x.bn x.bc,.slice x.tA x.tn x.tc]]++lb) W λe w'=>e=.returned (.bool (p x))/\Below W.heap.size W w'
theorem aDI (g:Nat) (lb:Array Value) (eg:∀args w,(callFunc g args).run Tryz.prog w=.ok (.enter g args) w) (p:lG->Bool) (A:Option Addr) (n c:Nat) (xs:List lG) (w:World) (B base:Nat) (hz:Rw fS 3 w B A n xs) (hB:B<=w.heap.size) (hbase:base<=w.heap.size) (hbig:n<=140737488355328)
 (hp:aKu g lb p base w):Calls Tryz.prog 109 #[.slice A n c,.func (.func g) #[] lb] w λe w'=>e=.returned (.int .i64 (idxOf p xs))/\Below w.heap.size w w':=by
 have hln:=hz.1;have H1:=hZ (λ(i:Nat) (x:lG) (h:xs[i]? =some x) (hi:i<xs.findIdx p)=>(by
  have hl:=(List.getElem?_eq_some_iff.1 h).1;have:=List.not_of_lt_findIdx hi;rw[(List.getElem?_eq_some_iff.1 h).2] at this;simpa using this:p x=false))
 have H2:=hZ (λ(x:lG) (h:xs[xs.findIdx p]? =some x)=>(by
  have hl:=(List.getElem?_eq_some_iff.1 h).1;have:=List.findIdx_getElem (w:=hl);rw[(List.getElem?_eq_some_iff.1 h).2] at this;exact this:p x=true))
 have hfl:xs.findIdx p<=n:=by rw[<-hln];exact List.findIdx_le_length
 have HI:Hid (idxOf p xs=if xs.findIdx p<n then(xs.findIdx p:Int) else -1):=hZ (by unfold idxOf;rw[hln]);have HX:=hZ (λ(i:Nat) (hi:i<n)=>(⟨xs[i]'(by omega),List.getElem?_eq_getElem _⟩:∃x,xs[i]? =some x));generalize xs.findIdx p=m at*;have HZ:=hZ hz;have HP:=hZ hp;clear hz hp hln;rcases Nat.eq_zero_or_pos n with h0|h0
 ·subst h0
  go_enter Tryz.func109,Tryz.ntmps109;go_wp2
  go_loop [5,8] (λ_ i=>i=.int .i64 0) (λ_ i=>1 - (intOf i).toNat)
  case atStart=>exact rfl
  case round=>
   subst hrel;go_wp2;go_ret;exact⟨iR (by rw[HI.out,if_neg (by omega)]),Below.refl _ _⟩
 ·obtain⟨b,off,rfl,hb⟩:=HZ.out.open h0
  go_enter Tryz.func109,Tryz.ntmps109;go_wp2;go_loopw [5,8] (λ_ i wr=>∃k:Nat,k<=m/\i=.int .i64 k/\Hid (Below w.heap.size w wr)) (λ_ i _=>n - (intOf i).toNat)
  case atStart=>exact⟨0,by omega,rfl,hZ (Below.refl _ _)⟩
  case round=>
   obtain⟨k,hk,rfl,HB⟩:=hrel;by_cases hlt:k<n
   ·obtain⟨x,hx⟩:=HX.out k hlt
    have hc:=(HZ.out.below (HB.out.mono hB)).at_ kK hx;have c0:wr.cell? ⟨b,off+k*3,none⟩=some (.int .i64 x.r):=hc 0 _ rfl;have c1:wr.cell? ⟨b,off+k*3+1,none⟩=some (.slice x.bA x.bn x.bc):=hc 1 _ rfl;have c2:wr.cell? ⟨b,off+k*3+2,none⟩=some (.slice x.tA x.tn x.tc):=hc 2 _ rfl;have hcall:=HP.out wr x (HB.out.mono hbase);by_cases hm:k<m
    ·have hpx:=H1.out k x hx hm
     rw[hpx] at hcall;have Db:=hZ hx;clear hx hc hpx;go_wp2_with(go_at_fn g;refine hcall.mono ?_;rintro e w' ⟨rfl,hb'⟩)
     go_roundw
     case rel=>exact⟨k+1,by omega,by go_num,hZ (HB.out.trans (hb'.mono HB.out.size))⟩
     case measure=>simp[intOf];omega
    ·have wD:k=m:=by omega
     subst wD;have hpx:=H2.out x hx;rw[hpx] at hcall;have Db:=hZ hx;clear hx hc hpx;go_wp2_with(go_at_fn g;refine hcall.mono ?_;rintro e w' ⟨rfl,hb'⟩)
     go_ret;exact⟨iR (by rw[HI.out,if_pos hlt]),HB.out.trans (hb'.mono HB.out.size)⟩
   ·have wD:k=m:=by omega
    subst wD;go_wp2;go_ret;exact⟨iR (by rw[HI.out,if_neg hlt]),HB.out⟩
section
theorem I9 {α:Type} {f:α->List Value} {sz:Nat} {T:TypeId} {w:World} {base n c:Nat} {A:Option Addr} {xs:List α} (h:Os f sz T w base (.slice A n c) xs):∀b o m,A=some ⟨b,o,m⟩->0<n->base<=b:=by
 rintro b o m rfl h0;obtain⟨h1,h|⟨g,cap,cur,e,hg,_⟩⟩:=h
 ·obtain⟨e,h2⟩:=h
  cases e
 ·injection e with e
  injection e with e;injection e with e;omega
variable {Q:Nat->Prop}
def Ms (Q:Nat->Prop) (base:World) (ss:List gT) (A:Option Addr) (n:Nat) (w':World):Prop:=∃ys,Rw fS 3 w' w'.heap.size A n ys/\pI Q w' w'.heap.size ys ss/\Below base.heap.size base w'/\(∀b o m,A=some ⟨b,o,m⟩->0<n->base.heap.size<=b)
def aFW (Q:Nat->Prop) (N E:Int) (ss:List gT) (w:World) (e:Ending) (w':World):Prop:=∃A n c,n<=c/\e=.returned (.tuple #[.slice A n c,.int .i64 N,.int .i64 E])/\Ms Q w ss A n w'
def aKr (Q:Nat->Prop) (E:Int) (ss:List gT) (w:World) (e:Ending) (w':World):Prop:=∃A n c,e=.returned (.tuple #[.slice A n c,.int .i64 E])/\Ms Q w ss A n w'
theorem I5 {w w':World} (h:Below w.heap.size w w'):Ms Q w [] none 0 w':=⟨[],Rw.nil,pI.nil,h,λ_ _ _ e=>by cases e⟩
theorem Oa (A:Option Addr) (n c:Nat) (xs:List lG) (ss:List gT) (w:World) (B B':Nat) (hz:Rw fS 3 w B A n xs) (hs:pI Q w B' xs ss) (k:Int) (s:gT) (h:uQ ss k s):
 Calls Tryz.prog 158 #[.slice A n c,.int .i64 k] w λe w'=>e=.returned (.bool true)/\w=w':=by
 obtain⟨h0,h1,h2⟩:=h;obtain⟨i,rfl⟩:=Int.eq_ofNat_of_zero_le h0;rw[Int.toNat_natCast] at h1;have hi:i<n:=by have:=(List.getElem?_eq_some_iff.1 h1).1;rw[<-hz.1,hs.1];exact this
 obtain⟨b,off,rfl,hb⟩:=hz.open (by omega);obtain⟨x,s',hx,hs',hr⟩:=hs.get (i:=i) (by rw[hz.1];exact hi);rw[h1] at hs';cases hs';have hc:w.cell? ⟨b,off+i*3,none⟩=some (.int .i64 x.r):=hz.at_ kK hx 0 _ rfl;have Cx:0<x.r:=by rw[hr.r];exact h2
 have hin:(i:Int)<(n:Int):=by omega
 clear h1 hx hr hz hs;go_enter Tryz.func158,Tryz.ntmps158;go_wp2;go_ret;exact⟨rfl,rfl⟩
theorem aBG (A:Option Addr) (n c:Nat) (xs:List lG) (ss:List gT) (w:World) (B B':Nat) (hz:Rw fS 3 w B A n xs) (hs:pI Q w B' xs ss) (k:Int) (h:aC5 ss k):
 Calls Tryz.prog 158 #[.slice A n c,.int .i64 k] w λe w'=>e=.returned (.bool false)/\w=w':=by
 have hl:n=ss.length:=by rw[<-hz.1,hs.1]
 rcases(show k<0\/0<=k by omega) with h0|h0
 ·clear hz hs
  go_enter Tryz.func158,Tryz.ntmps158;go_wp2;go_ret;exact⟨rfl,rfl⟩
 ·obtain⟨i,rfl⟩:=Int.eq_ofNat_of_zero_le h0
  by_cases hi:i<n
  ·obtain⟨s,h1,h2⟩:∃s,ss[i]? =some s/\s.r<1:=by
    rcases h with h|h|⟨s,h,h'⟩
    ·omega
    ·omega
    ·exact⟨s,by rwa[Int.toNat_natCast] at h,h'⟩
   obtain⟨b,off,rfl,hb⟩:=hz.open (by omega);obtain⟨x,s',hx,hs',hr⟩:=hs.get (i:=i) (by rw[hz.1];exact hi);rw[h1] at hs';cases hs';have hc:w.cell? ⟨b,off+i*3,none⟩=some (.int .i64 x.r):=hz.at_ kK hx 0 _ rfl;have Cx:x.r<=0:=by rw[hr.r];omega
   have hxd:decide (0<x.r)=false:=by simpa using Cx
   have hin:(i:Int)<(n:Int):=by omega
   clear h1 hx hr hz hs hl h;go_enter Tryz.func158,Tryz.ntmps158;go_wp2;go_ret;exact⟨rfl,rfl⟩
  ·have hin:(n:Int)<=(i:Int):=by omega
   clear hz hs h hl;go_enter Tryz.func158,Tryz.ntmps158;go_wp2;go_ret;exact⟨rfl,rfl⟩
theorem Q9 (A:Option Addr) (n c:Nat) (xs:List lG) (w:World) (B:Nat) (hz:Rw fS 3 w B A n xs) (hB:B<=w.heap.size) (i:Nat) (hi:i<n) (s:lG) (hbig:n<=2513169434916):
 Calls Tryz.prog 111 #[.slice A n c,.int .i64 i,.agg #[.int .i64 s.r,.slice s.bA s.bn s.bc,.slice s.tA s.tn s.tc]] w (Gives fS 3 71 w.heap.size w (xs.set i s)):=by
 have hln:=hz.1;have HZ:=hZ hz;clear hz;go_enter Tryz.func111,Tryz.ntmps111;go_wp2_with fail
 refine(aLZ A n c xs _ B (HZ.out.below ((Below.refl B w).alloc hB _)) (by simp;omega) hbig).mono ?_;rintro e w1 ⟨v,rfl,ho,hb1⟩;simp only[World.size_alloc] at ho hb1;obtain⟨g,c1,rfl,hg,hnc,hm⟩:=zZ ho (by omega);rw[hln] at hnc;obtain⟨x,hx⟩:∃x,xs[i]? =some x:=⟨xs[i]'(by omega),List.getElem?_eq_getElem _⟩;have hco:=ho.cells kK hx;have o0:w1.cell? ⟨g,i*3,none⟩=some (.int .i64 x.r):=(hco 0 _ rfl).1;have f0:w1.frozen? ⟨g,i*3,none⟩=false:=(hco 0 _ rfl).2;have o1:w1.cell? ⟨g,i*3+1,none⟩=some (.slice x.bA x.bn x.bc):=(hco 1 _ rfl).1;have f1:w1.frozen? ⟨g,i*3+1,none⟩=false:=(hco 1 _ rfl).2;have o2:w1.cell? ⟨g,i*3+2,none⟩=some (.slice x.tA x.tn x.tc):=(hco 2 _ rfl).1;have f2:w1.frozen? ⟨g,i*3+2,none⟩=false:=(hco 2 _ rfl).2;have b0:w1.cell? ⟨w.heap.size,0,none⟩=some (.int .i64 s.r):=by rw[hb1.cell (p:=⟨w.heap.size,0,none⟩) (Nat.lt_succ_self _)];simp[go_sem]
 have b1:w1.cell? ⟨w.heap.size,1,none⟩=some (.slice s.bA s.bn s.bc):=by rw[hb1.cell (p:=⟨w.heap.size,1,none⟩) (Nat.lt_succ_self _)];simp[go_sem]
 have b2:w1.cell? ⟨w.heap.size,2,none⟩=some (.slice s.tA s.tn s.tc):=by rw[hb1.cell (p:=⟨w.heap.size,2,none⟩) (Nat.lt_succ_self _)];simp[go_sem]
 have HO:=hZ (ho.gD (show w.heap.size<=w.heap.size+1 by omega));have HB1:=hZ (((Below.refl w.heap.size w).alloc (nR _) (.cells #[.int .i64 s.r,.slice s.bA s.bn s.bc,.slice s.tA s.tn s.tc] 71)).trans (hb1.mono (by omega)));have HX:=hZ hx;have jN:=hZ hln;have hin:(i:Int)<(xs.length:Int):=by omega
 clear ho hb1 hx hco hln;go_wp2;go_ret;exact⟨_,rfl,HO.out.set kK (by decide) (by have:=jN.out;omega) s,below_setCells (by omega) (fS s) (i*3) _ HB1.out⟩
theorem aHr (base:Nat) (w:World):aKu 110 #[] (λx=>decide (x.r<1)) base w:=by
 intro W x hW;clear hW;by_cases h:x.r<1
 ·have hd:decide (x.r<1)=true:=by simpa using h
  show Calls _ _ _ _ λe w'=>e=.returned (.bool (decide (x.r<1)))/\_;rw[hd];go_enter Tryz.func110,Tryz.ntmps110;go_wp2;go_ret;exact⟨rfl,(Below.refl _ _).alloc (nR _) _⟩
 ·have hd:decide (x.r<1)=false:=by simpa using h
  show Calls _ _ _ _ λe w'=>e=.returned (.bool (decide (x.r<1)))/\_;rw[hd];go_enter Tryz.func110,Tryz.ntmps110;go_wp2;go_ret;exact⟨rfl,(Below.refl _ _).alloc (nR _) _⟩
theorem aCM {w:World} {B:Nat} {xs:List lG} {ss:List gT} (h:pI Q w B xs ss):xs.findIdx (λx=>decide (x.r<1))=ss.findIdx mG:=
 findIdx_map _ _ xs ss h.1 λi x s hx hs=>by unfold mG;rw[(h.2 i x s hx hs).r]
end
section
variable {Q:Nat->Prop}
theorem aEd {k:IntKind} {T:TypeId} {w:World} {base n c:Nat} {A:Option Addr} {zs:List Int} (h:Own k T w base A n c zs):∀b o m,A=some ⟨b,o,m⟩->0<n->base<=b:=by
 rintro b o m e h0;obtain⟨g,_,e',hg,_⟩:=h.2.2.2 h0;rw[e] at e';injection e' with e';injection e' with e';omega
theorem aIm (A:Option Addr) (n c:Nat) (xs:List lG) (ss:List gT) (bA:Option Addr) (bn bc:Nat) (bs:List Int) (tA:Option Addr) (tn tc:Nat) (ts:List Int) (refs:Int) (w:World) (hQ:∀b,w.heap.size<=b->Q b) (hz:Rw fS 3 w w.heap.size A n xs) (hs:pI Q w w.heap.size xs ss)
 (hb:Row .u8 w w.heap.size bA bn bs) (ht:Row .i64 w w.heap.size tA tn ts) (hbig:n<=2513169434916):
 Calls Tryz.prog 64 #[.slice A n c,.slice bA bn bc,.slice tA tn tc,.int .i64 refs] w (aFW Q (qR ss bs ts refs) (uA ss bs ts refs) (tZ ss bs ts refs) w):=by
 have HQ0:=hZ hQ;clear hQ;have hbl:=hb.1;have htl:=ht.1;have hnl:=hz.1;by_cases hE2:bs.length≠64\/ts.length≠4\/refs<1\/4<refs
 ·have hE:uA ss bs ts refs=2:=by unfold uA;rw[if_pos hE2]
  have hN:qR ss bs ts refs=0:=by unfold qR;rw[hE];rfl
  have hS:tZ ss bs ts refs=[]:=by unfold tZ;rw[hE];rfl
  rw[hE,hN,hS];clear hE hN hS hz hs hb ht;rw[hbl,htl] at hE2;clear hbl htl hnl;have fin:aFW Q ((0:Nat):Int) 2 [] w (.returned (.tuple #[.slice none 0 0,.int .i64 0,.int .i64 2])) w:=⟨none,0,0,nR _,rfl,I5 (Below.refl _ _)⟩;have FIN:=hZ fin;clear fin;by_cases h1:bn=64
  ·have e1:((bn:Int) !=64)=false:=by subst h1;rfl
   by_cases h2:tn=4
   ·have e2:((tn:Int) !=4)=false:=by subst h2;rfl
    have h3:refs<1\/(1<=refs/\4<refs):=by omega
    clear h1 h2 hE2;rcases h3 with h3|⟨h3,h4⟩
    ·go_enter Tryz.func64,Tryz.ntmps64
     go_wp2
     go_ret3
     exact FIN.out
    ·go_enter Tryz.func64,Tryz.ntmps64
     go_wp2
     go_ret3
     exact FIN.out
   ·have e2:((tn:Int) !=4)=true:=by rw[bne_iff_ne];omega
    clear h1 h2 hE2;go_enter Tryz.func64,Tryz.ntmps64;go_wp2
    go_ret3
    exact FIN.out
  ·have e1:((bn:Int) !=64)=true:=by rw[bne_iff_ne];omega
   clear h1 hE2;go_enter Tryz.func64,Tryz.ntmps64;go_wp2
   go_ret3
   exact FIN.out
 ·have h1:bn=64:=by omega
  have h2:tn=4:=by omega
  have h3:1<=refs:=by omega
  have h4:refs<=4:=by omega
  subst h1 h2;have hcall:=aDI 110 #[] (enters_of Tryz.func110 (by kernel_rfl) rfl) (λx=>decide (x.r<1)) A n c xs w w.heap.size w.heap.size hz (nR _) (nR _) (by omega) (aHr _ _);by_cases hf:ss.findIdx mG<ss.length
  ·have hE:uA ss bs ts refs=0:=by unfold uA;rw[if_neg hE2,if_pos hf]
   have hN:qR ss bs ts refs=ss.findIdx mG:=by unfold qR;rw[if_pos hE]
   have hS:tZ ss bs ts refs=ss.set (ss.findIdx mG) ⟨refs,bs,ts⟩:=by unfold tZ;rw[if_pos hE]
   rw[hE,hN,hS];have hi:idxOf (λx:lG=>decide (x.r<1)) xs=((ss.findIdx mG:Nat):Int):=by unfold idxOf;rw[aCM hs,if_pos (by rw[hs.1];exact hf)]
   rw[hi] at hcall;clear hE hN hS hi hE2;have hfn:ss.findIdx mG<n:=by rw[<-hnl,hs.1];exact hf
   generalize ss.findIdx mG=i at*;have HZ:=hZ hz;have HSs:=hZ hs;have HB:=hZ hb;have HT:=hZ ht;clear hz hs hb ht hbl htl hnl hf;go_enter Tryz.func64,Tryz.ntmps64;go_wp2_with fail
   refine hcall.mono ?_;clear hcall;rintro e w1 ⟨rfl,hb1⟩;have HB1:=hZ hb1;clear hb1;go_wp2_with fail
   refine(aAR bA 64 bc bs _ _ (HB.out.on HB1.out (nR _)) (nR _) (by omega)).mono ?_;rintro e w2 ⟨bA2,bc2,rfl,hbo,hb2⟩;have HBO:=hZ hbo.row;have HBQ:=hZ (aEd hbo);have HB2:=hZ hb2;clear hbo hb2;go_wp2_with fail
   refine(Xq tA 4 tc ts _ _ ((HT.out.on HB1.out (nR _)).on HB2.out (nR _)) (nR _) (by omega)).mono ?_;rintro e w3 ⟨tA2,tc2,rfl,hto,hb3⟩;have HTO:=hZ hto.row;have HTQ:=hZ (aEd hto);have HB3:=hZ hb3;have HW3:Hid (Below w.heap.size w w3):=hZ (HB1.out.trans ((HB2.out.trans (hb3.mono HB2.out.size)).mono HB1.out.size));have hs3:=HW3.out.size;clear hto hb3;go_wp2_with fail
   refine(Q9 A n c xs _ w.heap.size (HZ.out.below HW3.out) hs3 i hfn ⟨refs,bA2,64,bc2,tA2,4,tc2⟩ hbig).mono ?_;rintro e w4 ⟨v,rfl,ho,hb4⟩;obtain⟨A4,c4,rfl,aM7,_,hr⟩:=ho.row kK;rw[List.length_set] at hr aM7;have HR:=hZ hr;have Jq:Hid (∀b o m,A4=some ⟨b,o,m⟩->0<xs.length->w.heap.size<=b):=hZ (λb o m e h=>Nat.le_trans hs3 (I9 ho b o m e (by rw[List.length_set];exact h)));have qQ:=hZ hb4;clear ho hr hb4;go_wp2
   go_ret3
   exact⟨A4,_,c4,aM7,rfl,_,HR.out,((HSs.out.below HW3.out).any hs3 |>.on qQ.out (nR _)).set ⟨rfl,(HBO.out.on HB3.out (nR _)).on qQ.out (nR _),HTO.out.on qQ.out (nR _),(show(64:Nat)<=140737488351232 by decide),(show(4:Nat)<=17592186043904 by decide),(show eG refs by unfold eG;omega),λh b o m e=>HQ0.out b (Nat.le_trans HB1.out.size (HBQ.out b o m e h)),λh b o m e=>HQ0.out b (Nat.le_trans (HB1.out.trans (HB2.out.mono HB1.out.size)).size (HTQ.out b o m e h))⟩,HW3.out.trans (qQ.out.mono hs3),Jq.out⟩
  ·have hE:uA ss bs ts refs=4:=by unfold uA;rw[if_neg hE2,if_neg hf]
   have hN:qR ss bs ts refs=0:=by unfold qR;rw[hE];rfl
   have hS:tZ ss bs ts refs=[]:=by unfold tZ;rw[hE];rfl
   rw[hE,hN,hS];have hi:idxOf (λx:lG=>decide (x.r<1)) xs= -1:=by unfold idxOf;rw[aCM hs,if_neg (by rw[hs.1];exact hf)]
   rw[hi] at hcall;clear hE hN hS hi hz hs hb ht hbl htl hnl hE2;go_enter Tryz.func64,Tryz.ntmps64;go_wp2_with(go_at_call 109;refine hcall.mono ?_;rintro e w1 ⟨rfl,hb1⟩)
   go_ret3
   exact⟨none,0,0,nR _,rfl,I5 hb1⟩
theorem aE1 (A:Option Addr) (n c:Nat) (xs:List lG) (ss:List gT) (k:Int) (w:World) (hz:Rw fS 3 w w.heap.size A n xs) (hs:pI Q w w.heap.size xs ss) (hbig:n<=2513169434916) (E:Int) (R:List gT)
 (h:(aC5 ss k/\E=3/\R=[])\/(∃s,uQ ss k s/\((3<s.r/\E=4/\R=[])\/(s.r<=3/\E=0/\R=ss.set k.toNat (bump s 1))))):
 Calls Tryz.prog 123 #[.slice A n c,.int .i64 k] w (aKr Q E R w):=by
 rcases h with⟨hd,rfl,rfl⟩|⟨s,hl,h⟩
 ·have hcall:=aBG A n c xs ss w _ _ hz hs k hd
  clear hz hs hd;go_enter Tryz.func123,Tryz.ntmps123;go_wp2_with(go_at_call 158;refine hcall.mono ?_;rintro e w1 ⟨rfl,rfl⟩)
  go_ret2
  exact⟨none,0,0,rfl,I5 (Below.refl _ _)⟩
 ·have hcall:=Oa A n c xs ss w _ _ hz hs k s hl
  obtain⟨h0,h1,h2⟩:=hl;obtain⟨i,rfl⟩:=Int.eq_ofNat_of_zero_le h0;rw[Int.toNat_natCast] at h1 h;have hi:i<n:=by have:=(List.getElem?_eq_some_iff.1 h1).1;rw[<-hz.1,hs.1];exact this
  obtain⟨b,off,rfl,hb⟩:=hz.open (by omega);obtain⟨x,s',hx,hs',hr⟩:=hs.get (i:=i) (by rw[hz.1];exact hi);rw[h1] at hs';cases hs';have c0:w.cell? ⟨b,off+i*3,none⟩=some (.int .i64 x.r):=hz.at_ kK hx 0 _ rfl;have c1:w.cell? ⟨b,off+i*3+1,none⟩=some (.slice x.bA x.bn x.bc):=hz.at_ kK hx 1 _ rfl;have c2:w.cell? ⟨b,off+i*3+2,none⟩=some (.slice x.tA x.tn x.tc):=hz.at_ kK hx 2 _ rfl;have hin:(i:Int)<(n:Int):=by omega
  have Cx:x.r=s.r:=hr.r;have HR:=hZ hr;have HZ:=hZ hz;have HSs:=hZ hs;clear h1 hx hr hz hs h0;rcases h with⟨h3,rfl,rfl⟩|⟨h3,rfl,rfl⟩
  ·have h3':3<x.r:=by omega
   clear h3 h2 Cx;go_enter Tryz.func123,Tryz.ntmps123;go_wp2_with(go_at_call 158;refine hcall.mono ?_;rintro e w1 ⟨rfl,rfl⟩)
   go_ret2
   exact⟨none,0,0,rfl,I5 (Below.refl _ _)⟩
  ·have h3':x.r<=3:=by omega
   have h2':0<x.r:=by omega
   have Td:=hZ Cx;clear h3 h2 Cx;go_enter Tryz.func123,Tryz.ntmps123;go_wp2_with fail
   refine hcall.mono ?_;clear hcall;rintro e w1 ⟨rfl,rfl⟩;go_wp2_with fail
   have HW0:=hZ ((Below.refl w.heap.size w).alloc (nR _) (.cells #[.int .i64 (x.r+1),.slice x.bA x.bn x.bc,.slice x.tA x.tn x.tc] 71));refine(Q9 _ n c xs _ w.heap.size (HZ.out.below HW0.out) HW0.out.size i hi ⟨x.r+1,x.bA,x.bn,x.bc,x.tA,x.tn,x.tc⟩ hbig).mono ?_;rintro e w4 ⟨v,rfl,ho,hb4⟩;obtain⟨A4,c4,rfl,_,_,hr⟩:=ho.row kK;rw[List.length_set] at hr;have HR4:=hZ hr;have Jq:Hid (∀b o m,A4=some ⟨b,o,m⟩->0<xs.length->w.heap.size<=b):=hZ (λb o m e h=>Nat.le_trans HW0.out.size (I9 ho b o m e (by rw[List.length_set];exact h)));have qQ:=hZ (HW0.out.trans (hb4.mono HW0.out.size));clear ho hr hb4 c0 c1 c2;go_wp2
   go_ret2
   refine⟨A4,_,c4,rfl,_,HR4.out,(HSs.out.on qQ.out (nR _)).set ?_,qQ.out,Jq.out⟩;have h:=HR.out.on qQ.out (nR _);unfold bump;rw[if_neg (by have:=Td.out;omega)];exact⟨by show x.r+1=s.r+1;rw[Td.out],h.b,h.t,h.bn,h.tn,by have:=Td.out;show eG (s.r+1);unfold eG;omega,h.q,h.qt⟩
theorem aGT (A:Option Addr) (n c:Nat) (xs:List lG) (ss:List gT) (k:Int) (w:World) (hz:Rw fS 3 w w.heap.size A n xs) (hs:pI Q w w.heap.size xs ss) (hbig:n<=2513169434916) (E:Int) (R:List gT)
 (h:(aC5 ss k/\E=3/\R=[])\/(∃s,uQ ss k s/\E=0/\R=ss.set k.toNat (bump s (-1)))):
 Calls Tryz.prog 117 #[.slice A n c,.int .i64 k] w (aKr Q E R w):=by
 rcases h with⟨hd,rfl,rfl⟩|⟨s,hl,rfl,rfl⟩
 ·have hcall:=aBG A n c xs ss w _ _ hz hs k hd
  clear hz hs hd;go_enter Tryz.func117,Tryz.ntmps117;go_wp2_with(go_at_call 158;refine hcall.mono ?_;rintro e w1 ⟨rfl,rfl⟩)
  go_ret2
  exact⟨none,0,0,rfl,I5 (Below.refl _ _)⟩
 ·have hcall:=Oa A n c xs ss w _ _ hz hs k s hl
  obtain⟨h0,h1,h2⟩:=hl;obtain⟨i,rfl⟩:=Int.eq_ofNat_of_zero_le h0;rw[Int.toNat_natCast] at h1⊢;have hi:i<n:=by have:=(List.getElem?_eq_some_iff.1 h1).1;rw[<-hz.1,hs.1];exact this
  obtain⟨b,off,rfl,hb⟩:=hz.open (by omega);obtain⟨x,s',hx,hs',hr⟩:=hs.get (i:=i) (by rw[hz.1];exact hi);rw[h1] at hs';cases hs';have c0:w.cell? ⟨b,off+i*3,none⟩=some (.int .i64 x.r):=hz.at_ kK hx 0 _ rfl;have c1:w.cell? ⟨b,off+i*3+1,none⟩=some (.slice x.bA x.bn x.bc):=hz.at_ kK hx 1 _ rfl;have c2:w.cell? ⟨b,off+i*3+2,none⟩=some (.slice x.tA x.tn x.tc):=hz.at_ kK hx 2 _ rfl;have hin:(i:Int)<(n:Int):=by omega
  have Cx:x.r=s.r:=hr.r;have HZ:=hZ hz;have HSs:=hZ hs;have hI:=hr.i;unfold eG at hI;have HR:=hZ hr;clear hr;have hI2:x.r<=9223372036854775807:=by omega
  have h2':0<x.r:=by omega
  have Td:=hZ Cx;clear h1 hx hz hs h0 h2 Cx hI;cases hq:(x.r -1==0) with
  |true=>
   have HQ:=hZ hq;have hx1:x.r=1:=by have:x.r -1=0:=by simpa using hq
                                     omega
   clear hq h2' hI2;rw[hx1] at c0;have zC:=hZ hx1;clear hx1;go_enter Tryz.func117,Tryz.ntmps117;go_wp2_with fail
   refine hcall.mono ?_;clear hcall;rintro e w1 ⟨rfl,rfl⟩;go_wp2_with fail
   have HW0:=hZ ((Below.refl w.heap.size w).alloc (nR _) (.cells #[.int .i64 0,.slice none 0 0,.slice none 0 0] 71));refine(Q9 _ n c xs _ w.heap.size (HZ.out.below HW0.out) HW0.out.size i hi ⟨0,none,0,0,none,0,0⟩ hbig).mono ?_;rintro e w4 ⟨v,rfl,ho,hb4⟩;obtain⟨A4,c4,rfl,_,_,hr⟩:=ho.row kK;rw[List.length_set] at hr;have HR4:=hZ hr;have Jq:Hid (∀b o m,A4=some ⟨b,o,m⟩->0<xs.length->w.heap.size<=b):=hZ (λb o m e h=>Nat.le_trans HW0.out.size (I9 ho b o m e (by rw[List.length_set];exact h)));have qQ:=hZ (HW0.out.trans (hb4.mono HW0.out.size));clear ho hr hb4 c0 c1 c2;go_wp2
   go_ret2
   refine⟨A4,_,c4,rfl,_,HR4.out,(HSs.out.on qQ.out (nR _)).set ?_,qQ.out,Jq.out⟩;unfold bump;rw[if_pos (by have:=Td.out;have:=zC.out;omega)];exact⟨rfl,⟨rfl,by simp,λh=>absurd h (Nat.lt_irrefl 0)⟩,⟨rfl,by simp,λh=>absurd h (Nat.lt_irrefl 0)⟩,(show(0:Nat)<=140737488351232 by decide),(show(0:Nat)<=17592186043904 by decide),by show eG 0;unfold eG;omega,λh=>absurd h (Nat.lt_irrefl 0),λh=>absurd h (Nat.lt_irrefl 0)⟩
  |false=>
   have HQ:=hZ hq;go_enter Tryz.func117,Tryz.ntmps117;go_wp2_with fail
   refine hcall.mono ?_;clear hcall;rintro e w1 ⟨rfl,rfl⟩;go_wp2_with fail
   have HW0:=hZ ((Below.refl w.heap.size w).alloc (nR _) (.cells #[.int .i64 (x.r -1),.slice x.bA x.bn x.bc,.slice x.tA x.tn x.tc] 71));refine(Q9 _ n c xs _ w.heap.size (HZ.out.below HW0.out) HW0.out.size i hi ⟨x.r -1,x.bA,x.bn,x.bc,x.tA,x.tn,x.tc⟩ hbig).mono ?_;rintro e w4 ⟨v,rfl,ho,hb4⟩;obtain⟨A4,c4,rfl,_,_,hr⟩:=ho.row kK;rw[List.length_set] at hr;have HR4:=hZ hr;have Jq:Hid (∀b o m,A4=some ⟨b,o,m⟩->0<xs.length->w.heap.size<=b):=hZ (λb o m e h=>Nat.le_trans HW0.out.size (I9 ho b o m e (by rw[List.length_set];exact h)));have qQ:=hZ (HW0.out.trans (hb4.mono HW0.out.size));clear ho hr hb4 c0 c1 c2;go_wp2
   go_ret2
   refine⟨A4,_,c4,rfl,_,HR4.out,(HSs.out.on qQ.out (nR _)).set ?_,qQ.out,Jq.out⟩;have h:=HR.out.on qQ.out (nR _);unfold bump;rw[if_neg (by have:=Td.out;have:=HQ.out;simp at this;omega)];exact⟨by show x.r -1=s.r+ -1;rw[Td.out];rfl,h.b,h.t,h.bn,h.tn,by have:=Td.out;show eG (s.r+ -1);unfold eG;omega,h.q,h.qt⟩
end
end Go.Proofs.YtoogfmbojlpjaaaGreat
namespace Go.Proofs.YtoogfmbojlpjaaaGreat
open Go.ChangeShapes Go.WideShapes Go.ChangeAt Go.RowKit Go.Joins Go.Sort
section
variable {Q:Nat->Prop}
attribute [local go_sem] Oper.quiet Oper.quietAt Oper.quietUpon
def zSv:lG:=⟨0,none,0,0,none,0,0⟩
def xE:Array Value:=((List.replicate 64 zSv).flatMap fS).toArray
theorem aMM (w:World):(Instr.makeSlice 59 (.int .i64 64) (.int .i64 64)).run Tryz.prog w=.ok (.slice (some ⟨w.heap.size,0,none⟩) 64 64) (w.alloc (.cells xE 71)):=by
 obtain⟨i0,hi,hz0,hz1,hz2⟩:=info_parts aHh;have hr:=run_make (P:=Tryz.prog) w 59 71 i0 (.agg #[.int .i64 0,.slice none 0 0,.slice none 0 0]) Tryz.underlying59 hi hz0 .i64 .i64 64 64 (by omega) (by omega) (by rw[hz2];decide) (by decide);simp only[hz1] at hr;rw[show madeCells (Value.agg #[Value.int IntKind.i64 0,Value.slice none 0 0,Value.slice none 0 0]).cells (Int.toNat 64*3)=xE from by kernel_rfl] at hr;exact hr
theorem aIn (w:World):Calls Tryz.prog 35 #[] w λe w'=>e=.returned (.slice (some ⟨w.heap.size,0,none⟩) 64 64)/\w'=w.alloc (.cells xE 71):=by
 have hm:=aMM w;generalize xE=Z at*;go_enter Tryz.func35,Tryz.ntmps35;go_wp2;go_ret;exact⟨rfl,rfl⟩
end
end Go.Proofs.YtoogfmbojlpjaaaGreat
