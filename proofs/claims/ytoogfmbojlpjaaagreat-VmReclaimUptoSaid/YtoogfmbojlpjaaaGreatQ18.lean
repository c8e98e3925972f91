/- Lemmas. -/
import Derived.Test.YtoogfmbojlpjaaaGreatQ5
import Derived.Test.YtoogfmbojlpjaaaGreatQ17
import Derived.Test.YtoogfmbojlpjaaaGreatQ1
import Derived.Test.YtoogfmbojlpjaaaGreatQA
set_option maxRecDepth 100000
set_option maxHeartbeats 32000000
set_option linter.unusedVariables false
set_option linter.unusedSimpArgs false
namespace Go.Proofs.YtoogfmbojlpjaaaGreat
open Go.ChangeShapes Go.WideShapes Go.ChangeAt Go.RowKit Go.Joins
section
structure lG where
 r:Int
 bA:Option Addr
 bn:Nat
 bc:Nat
 tA:Option Addr
 tn:Nat
 tc:Nat
instance:Inhabited lG:=⟨⟨0,none,0,0,none,0,0⟩⟩
structure gT where
 r:Int
 b:List Int
 t:List Int
instance:Inhabited gT:=⟨⟨0,[],[]⟩⟩
def fS (x:lG):List Value:=[.int .i64 x.r,.slice x.bA x.bn x.bc,.slice x.tA x.tn x.tc]
theorem kK (x:lG):(fS x).length=3:=rfl
theorem aLN (x:lG):∀u∈fS x,u.oneCell'=true:=by
 intro u hu;simp[fS] at hu;rcases hu with rfl|rfl|rfl<;>rfl
theorem aNq (xs:List lG):∀u∈xs.flatMap fS,u.oneCell'=true:=by
 intro u hu;obtain⟨y,_,hy⟩:=List.mem_flatMap.1 hu;exact aLN y u hy
theorem aHh:(Tryz.prog.info? 71).map (λi=>(i.zero,i.size,i.bytes))=some (some (.agg #[.int .i64 0,.slice none 0 0,.slice none 0 0]),3,56):=by kernel_rfl
structure Mq (Q:Nat->Prop) (w:World) (B:Nat) (x:lG) (s:gT):Prop where
 r:x.r=s.r
 b:Row .u8 w B x.bA x.bn s.b
 t:Row .i64 w B x.tA x.tn s.t
 bn:x.bn<=140737488351232
 tn:x.tn<=17592186043904
 i:eG s.r
 q:0<x.bn->∀b o m,x.bA=some ⟨b,o,m⟩->Q b
 qt:0<x.tn->∀b o m,x.tA=some ⟨b,o,m⟩->Q b
variable {Q:Nat->Prop}
theorem Row.on {k:IntKind} {w w':World} {B:Nat} {A:Option Addr} {n:Nat} {zs:List Int} (h:Row k w B A n zs) (hb:Below w.heap.size w w') (hB:B<=w.heap.size):Row k w' w'.heap.size A n zs:=by
 have h2:=h.below (hb.mono hB);exact⟨h2.1,h2.2.1,λhn=>by obtain⟨b,off,e,hb2,hc⟩:=h2.2.2 hn;exact⟨b,off,e,by have:=hb.size;omega,hc⟩⟩
theorem Row.aND {k:IntKind} {w:World} {B B':Nat} {A:Option Addr} {n:Nat} {zs:List Int} (h:Row k w B A n zs) (hB:B<=B'):Row k w B' A n zs:=
 ⟨h.1,h.2.1,λhn=>by obtain⟨b,off,e,hb2,hc⟩:=h.2.2 hn;exact⟨b,off,e,by omega,hc⟩⟩
theorem Mq.on {w w':World} {B:Nat} {x:lG} {s:gT} (h:Mq Q w B x s) (hb:Below w.heap.size w w') (hB:B<=w.heap.size):Mq Q w' w'.heap.size x s:=⟨h.r,h.b.on hb hB,h.t.on hb hB,h.bn,h.tn,h.i,h.q,h.qt⟩
theorem Mq.below {w w':World} {B:Nat} {x:lG} {s:gT} (h:Mq Q w B x s) (hb:Below B w w'):Mq Q w' B x s:=⟨h.r,h.b.below hb,h.t.below hb,h.bn,h.tn,h.i,h.q,h.qt⟩
theorem Mq.any {w:World} {B B':Nat} {x:lG} {s:gT} (h:Mq Q w B x s) (hB:B<=B'):Mq Q w B' x s:=⟨h.r,h.b.aND hB,h.t.aND hB,h.bn,h.tn,h.i,h.q,h.qt⟩
def pI (Q:Nat->Prop) (w:World) (B:Nat) (xs:List lG) (ss:List gT):Prop:=xs.length=ss.length/\∀(i:Nat) (x:lG) (s:gT),xs[i]? =some x->ss[i]? =some s->Mq Q w B x s
theorem pI.on {w w':World} {B:Nat} {xs:List lG} {ss:List gT} (h:pI Q w B xs ss) (hb:Below w.heap.size w w') (hB:B<=w.heap.size):pI Q w' w'.heap.size xs ss:=⟨h.1,λi x s hx hs=>(h.2 i x s hx hs).on hb hB⟩
theorem pI.below {w w':World} {B:Nat} {xs:List lG} {ss:List gT} (h:pI Q w B xs ss) (hb:Below B w w'):pI Q w' B xs ss:=⟨h.1,λi x s hx hs=>(h.2 i x s hx hs).below hb⟩
theorem pI.any {w:World} {B B':Nat} {xs:List lG} {ss:List gT} (h:pI Q w B xs ss) (hB:B<=B'):pI Q w B' xs ss:=⟨h.1,λi x s hx hs=>(h.2 i x s hx hs).any hB⟩
theorem pI.nil {w:World} {B:Nat} :pI Q w B [] []:=⟨rfl,λi x s hx=>by simp at hx⟩
theorem pI.set {w:World} {B i:Nat} {xs:List lG} {ss:List gT} {x:lG} {s:gT} (h:pI Q w B xs ss) (hx:Mq Q w B x s):pI Q w B (xs.set i x) (ss.set i s):=by
 refine⟨by simp[h.1],λj y t hy ht=> ?_⟩;by_cases e:i=j
 ·subst e
  have hl:i<xs.length:=by have:=(List.getElem?_eq_some_iff.1 hy).1;simpa using this
  rw[List.getElem?_set_self hl] at hy;rw[List.getElem?_set_self (by rw[<-h.1];exact hl)] at ht;cases hy;cases ht;exact hx
 ·rw[List.getElem?_set_ne e] at hy ht
  exact h.2 j y t hy ht
theorem pI.get {w:World} {B i:Nat} {xs:List lG} {ss:List gT} (h:pI Q w B xs ss) (hi:i<xs.length):∃x s,xs[i]? =some x/\ss[i]? =some s/\Mq Q w B x s:=
 ⟨xs[i],ss[i]'(by rw[<-h.1];exact hi),List.getElem?_eq_getElem _,List.getElem?_eq_getElem _,h.2 i _ _ (List.getElem?_eq_getElem _) (List.getElem?_eq_getElem _)⟩
end
end Go.Proofs.YtoogfmbojlpjaaaGreat
namespace Go.Proofs.YtoogfmbojlpjaaaGreat
def mG (s:gT):Bool:=decide (s.r<1)
def uA (ss:List gT) (b t:List Int) (refs:Int):Int:=
 if b.length≠64\/t.length≠4\/refs<1\/4<refs then 2 else if ss.findIdx mG<ss.length then 0 else 4
def qR (ss:List gT) (b t:List Int) (refs:Int):Nat:=if uA ss b t refs=0 then ss.findIdx mG else 0
def tZ (ss:List gT) (b t:List Int) (refs:Int):List gT:=if uA ss b t refs=0 then ss.set (ss.findIdx mG) ⟨refs,b,t⟩ else []
def uQ (ss:List gT) (n:Int) (s:gT):Prop:=0<=n/\ss[n.toNat]? =some s/\0<s.r
def bump (s:gT) (Hg:Int):gT:=if s.r+Hg=0 then⟨0,[],[]⟩ else⟨s.r+Hg,s.b,s.t⟩
def aC5 (ss:List gT) (n:Int):Prop:=n<0\/(ss.length:Int)<=n\/∃s,ss[n.toNat]? =some s/\s.r<1
theorem findIdx_map {α β:Type} (f:α->Bool) (g:β->Bool):∀(xs:List α) (ys:List β),xs.length=ys.length->(∀(i:Nat) (x:α) (y:β),xs[i]? =some x->ys[i]? =some y->f x=g y)->xs.findIdx f=ys.findIdx g
 | [],[],_,_=>rfl
 |x::xs,[],h,_=>by simp at h
 | [],y::ys,h,_=>by simp at h
 |x::xs,y::ys,h,h2=>by
  rw[List.findIdx_cons,List.findIdx_cons,h2 0 x y rfl rfl,findIdx_map f g xs ys (by simpa using h) (λi a b ha hb=>h2 (i+1) a b (by simpa using ha) (by simpa using hb))]
end Go.Proofs.YtoogfmbojlpjaaaGreat
namespace Go.Proofs.YtoogfmbojlpjaaaGreat
open Go.ChangeShapes Go.WideShapes Go.ChangeAt Go.RowKit Go.Joins
theorem aLD:(Tryz.prog.info? 3).map (λi=>(i.zero,i.size,i.bytes))=some (some (.int .i64 0),1,8):=by kernel_rfl
theorem aLR (w:World) (a:Option Addr) (n c n' c':Nat):(binOp .eql 48 (.slice a n c) (.slice none n' c')).run Tryz.prog w=.ok (.bool a.isNone) w:=Lib.run_eql_slice_nil w _ _ a n c n' c' Tryz.underlying48
theorem Xq (A:Option Addr) (n c:Nat) (zs:List Int) (w:World) (B:Nat) (hz:Row .i64 w B A n zs) (_:B<=w.heap.size) (hbig:n<=17592186044416):
 Calls Tryz.prog 27 #[.slice A n c] w λe w'=>∃A' c',e=.returned (.slice A' n c')/\Own .i64 3 w' w.heap.size A' n c' zs/\Below w.heap.size w w':=by
 have q:=aLR;cases A with
 |none=>
  have h0:n=0:=by
   rcases Nat.eq_zero_or_pos n with h|h
   ·exact h
   ·obtain⟨_,_,e,_⟩:=hz.2.2 h;cases e
  subst h0;have hl:=hz.1;have HL:=hZ hl;clear hl hz;go_enter Tryz.func27,Tryz.ntmps27;go_wp2;go_ret;exact⟨none,0,rfl,⟨HL.out,nR _,by simp,λh=>absurd h (by omega)⟩,Below.refl _ _⟩
 |some x=>
  obtain⟨i0,hi,hz0,hz1,hz2⟩:=info_parts aLD;have hcell:∀j u,(zs.map (Value.int .i64))[j]? =some u->w.cell? (x.add j)=some u:=by
   intro j u hj;have hjl:j<zs.length:=by
    have:=(List.getElem?_eq_some_iff.1 hj).1;simpa using this
   obtain⟨b,off,e,hb,hc⟩:=hz.2.2 (by rw[<-hz.1];omega);injection e with e;subst e;rw[Addr.add_lit,hc j (by rw[<-hz.1];exact hjl)];rw[List.getElem?_map,List.getElem?_eq_getElem hjl] at hj;simp at hj;rw[<-hj,aAB hjl]
  have hl:(zs.map (Value.int .i64)).length=n*1:=by simp[hz.1]
  have HC:=hZ hcell;have HL:=hZ hl;clear hcell hl hz;go_enter Tryz.func27,Tryz.ntmps27;go_wp2_with(at_builtin;refine wpList_append_own _ rfl _ _ 48 rfl w.heap.size 3 i0 (.int .i64 0) 1 8 Tryz.underlying48 hi hz0 hz1 hz2 rfl (by decide) _ _ _ rfl (World.ownsRow_made w #[] 0 (nR _) (Nat.zero_le _) rfl) x n c (zs.map (Value.int .i64)) rfl ?qc1 ?qc2 ?qc3 ?qc4 ?qc5 ?qc6 ?_)
  case qc1=>exact HL.out
  case qc2=>
   intro j u hj;exact Lib.cell?_alloc_some _ (HC.out j u hj)
  case qc3=>intro u hu;obtain⟨y,_,rfl⟩:=List.mem_map.1 hu;rfl
  case qc4=>unfold maxLen;omega
  case qc5=>omega
  case qc6=>simp
  intro v' w1 hown hgrow hnil;go_wp2;go_ret;obtain⟨A',c',rfl,ho⟩:=Own.Ov hown;exact⟨A',c',rfl,ho,((Below.refl _ w).alloc (nR _) _).grown hgrow (by simp) (by intro k hk;simp[Value.ownBlock] at hk;omega)⟩
end Go.Proofs.YtoogfmbojlpjaaaGreat
