/- Lemmas. -/
import Derived.Test.YtoogfmbojlpjaaaGreatQ26
import Derived.Test.YtoogfmbojlpjaaaGreatQ20
import Derived.Test.YtoogfmbojlpjaaaGreatQ28
import Derived.Test.YtoogfmbojlpjaaaGreatQ29
import Derived.Test.YtoogfmbojlpjaaaGreatQ30
import Derived.Test.YtoogfmbojlpjaaaGreatQ33
import Derived.Test.YtoogfmbojlpjaaaGreatQ34
import Derived.Test.YtoogfmbojlpjaaaGreatQ12
import Derived.BigQuiet
import Derived.Test.YtoogfmbojlpjaaaGreatQA
set_option maxRecDepth 100000
set_option maxHeartbeats 32000000
set_option linter.unusedVariables false
set_option linter.unusedSimpArgs false
namespace Go.Proofs.YtoogfmbojlpjaaaGreat
open Go.ChangeShapes Go.WideShapes Go.ChangeAt Go.RowKit Go.Joins
section
def kS (Z:Nat->Prop) (m r t u b:Nat):Prop:=b≠m/\b≠r/\b≠t/\b≠u/\¬Z b
def Ap (Z:Nat->Prop) (m r t u:Nat) (x:Value):Prop:=∀b off s n c,x=.slice (some ⟨b,off,s⟩) n c->0<n->kS Z m r t u b
structure Mv (Z:Nat->Prop) (w:World) (m r t u c:Nat) (cs:Array Value) (v:Vm):Prop where
 size:cs.size=179
 one:cs.all (·.oneCell')=true
 iX:cs[0]? =some (.slice (some ⟨r,0,none⟩) 4096 4096)
 tag:cs[1]? =some (.slice (some ⟨t,0,none⟩) 128 128)
 free:∃x,cs[2]? =some x/\Bv w x (gJ v.rf).f/\Ap Z m r t u x/\Ty w x
 refs:∀i,i<64->cs[3+i]? =some (.int .i64 (v.rf i))
 dev:∃A c xs,cs[67]? =some (.slice A 64 c)/\Rw fS 3 w w.heap.size A 64 xs/\pI (kS Z m r t u) w w.heap.size xs v.dv/\∀b o s,A=some ⟨b,o,s⟩->kS Z m r t u b
 vS:∃A c,cs[68]? =some (.slice A v.tl.length c)/\Rw fC 4 w w.heap.size A v.tl.length v.tl/\∀b o s,A=some ⟨b,o,s⟩->0<v.tl.length->kS Z m r t u b
 live:∀k,k<4->cs[69+k*11]? =some (.bool (v.ps k).live)
 root:∀k,k<4->cs[69+k*11+1]? =some (.int .i64 (v.ps k).root)
 rg:∀k,k<4->∃x,cs[69+k*11+2]? =some x/\Rt w x (v.ps k).rg
 ks:∀k,k<4->Sub cs (69+k*11+3) (kA (v.ps k).ks)
 used:cs[113]? =some (.slice (some ⟨u,0,none⟩) 64 c)
 fixed:∀i,i<64->cs[114+i]? =some (.bool (v.fx i))
 hand:cs[178]? =some (.int .i64 v.hd)
structure Mo (w:World) (N:Nat) (Z:Nat->Prop) (m r t u c:Nat) (cs:Array Value) (v:Vm):Prop where
 nm:N<=m
 nr:N<=r
 nt:N<=t
 nu:N<=u
 rt:r≠t
 zl:∀b,Z b->b<w.heap.size
 X:Bx w m 69 cs
 iX:Own .u8 5 w N (some ⟨r,0,none⟩) 4096 4096 v.zs
 tag:Own .u8 5 w N (some ⟨t,0,none⟩) 128 128 v.ts
 us:Ow fB 1 4 w N (some ⟨u,0,none⟩) 64 c v.us
 V:Mv Z w m r t u c cs v
def Mr (w:World) (N:Nat) (Z:Nat->Prop) (m r t:Nat) (v:Vm):Prop:=∃u c cs,Mo w N Z m r t u c cs v
def aN (N:Nat) (w w':World):Prop:=Below N w w'/\∀b T cs,T≠69->T≠5->T≠4->Bx w b T cs->Bx w' b T cs
theorem aN.refl (N:Nat) (w:World):aN N w w:=⟨Below.refl _ _,λ_ _ _ _ _ _ h=>h⟩
theorem aN.trans {N:Nat} {a b c:World} (h:aN N a b) (k:aN N b c):aN N a c:=⟨h.1.trans k.1,λq T cs h1 h2 h3 hx=>k.2 q T cs h1 h2 h3 (h.2 q T cs h1 h2 h3 hx)⟩
theorem aN.of {N:Nat} {w w':World} (hN:N<=w.heap.size) (h:Below w.heap.size w w'):aN N w w':=⟨h.mono hN,λb T cs _ _ _ hx=>hx.below h⟩
theorem nI {k:IntKind} {T:TypeId} {w:World} {base g n c:Nat} {zs:List Int} (h:Own k T w base (some ⟨g,0,none⟩) n c zs) (hn:0<n):∃cur,Bx w g T cur:=by
 obtain⟨g',cur,e,_,hh,_⟩:=h.2.2.2 hn;injection e with e;injection e with e;subst e;exact⟨cur,hh⟩
theorem Kk {α:Type} {f:α->List Value} {sz:Nat} {T:TypeId} {w:World} {base g n c:Nat} {xs:List α} (h:Ow f sz T w base (some ⟨g,0,none⟩) n c xs) (hn:0<n):∃cur,Bx w g T cur:=by
 obtain⟨g',cur,e,_,hh,_⟩:=h.2.2.2 hn;injection e with e;injection e with e;subst e;exact⟨cur,hh⟩
theorem Own.same {k:IntKind} {T:TypeId} {w w':World} {base g n c:Nat} {zs:List Int} (h:Own k T w base (some ⟨g,0,none⟩) n c zs) (hb:w'.heap[g]? =w.heap[g]?):Own k T w' base (some ⟨g,0,none⟩) n c zs:=
 ⟨h.1,h.2.1,h.2.2.1,λhn=>by
   obtain⟨g',cur,e,hg,hh,hc⟩:=h.2.2.2 hn;injection e with e;injection e with e;subst e;exact⟨g,cur,rfl,hg,hb.trans hh,hc⟩⟩
theorem Ow.same {α:Type} {f:α->List Value} {sz:Nat} {T:TypeId} {w w':World} {base g n c:Nat} {xs:List α} (h:Ow f sz T w base (some ⟨g,0,none⟩) n c xs) (hb:w'.heap[g]? =w.heap[g]?):Ow f sz T w' base (some ⟨g,0,none⟩) n c xs:=
 ⟨h.1,h.2.1,h.2.2.1,λhn=>by
   obtain⟨g',cur,e,hg,hh,hc⟩:=h.2.2.2 hn;injection e with e;injection e with e;subst e;exact⟨g,cur,rfl,hg,hb.trans hh,hc⟩⟩
theorem Hd {w w':World} {g:Nat} (hb:w'.heap[g]? =w.heap[g]?) (o:Nat):w'.cell? ⟨g,o,none⟩=w.cell? ⟨g,o,none⟩:=World.cell?_of_block hb
theorem Rw.keeps {α:Type} {f:α->List Value} {sz:Nat} {w w':World} {A:Option Addr} {n:Nat} {xs:List α} {P:Nat->Prop} (h:Rw f sz w w.heap.size A n xs) (hk:∀b,b<w.heap.size->P b->w'.heap[b]? =w.heap[b]?) (hs:w.heap.size<=w'.heap.size) (hp:∀b o s,A=some ⟨b,o,s⟩->0<n->P b):Rw f sz w' w'.heap.size A n xs:=
 ⟨h.1,h.2.1,λhn=>by
   obtain⟨b,off,e,hb,hc⟩:=h.2.2 hn;exact⟨b,off,e,Nat.lt_of_lt_of_le hb hs,λi x hx j v hv=>(Hd (hk b hb (hp b off none e hn)) _).trans (hc i x hx j v hv)⟩⟩
theorem Row.keeps {k:IntKind} {w w':World} {A:Option Addr} {n:Nat} {zs:List Int} {P:Nat->Prop} (h:Row k w w.heap.size A n zs) (hk:∀b,b<w.heap.size->P b->w'.heap[b]? =w.heap[b]?) (hs:w.heap.size<=w'.heap.size) (hp:0<n->∀b o s,A=some ⟨b,o,s⟩->P b):Row k w' w'.heap.size A n zs:=
 ⟨h.1,h.2.1,λhn=>by
   obtain⟨b,off,e,hb,hc⟩:=h.2.2 hn;exact⟨b,off,e,Nat.lt_of_lt_of_le hb hs,λi hi=>(Hd (hk b hb (hp hn b off none e)) _).trans (hc i hi)⟩⟩
theorem Bv.keeps {w w':World} {x:Value} {xs:List aH} {P:Nat->Prop} (h:Bv w x xs) (hk:∀b,b<w.heap.size->P b->w'.heap[b]? =w.heap[b]?) (hs:w.heap.size<=w'.heap.size) (hp:∀b off s n c,x=.slice (some ⟨b,off,s⟩) n c->0<n->P b):Bv w' x xs:=by
 obtain⟨A,n,c,rfl,hr,hn⟩:=h;exact⟨A,n,c,rfl,hr.keeps hk hs (λb o s e h0=>hp b o s n c (by rw[e]) h0),hn⟩
theorem Ty.keeps {w w':World} {x:Value} {P:Nat->Prop} (h:Ty w x) (hk:∀b,b<w.heap.size->P b->w'.heap[b]? =w.heap[b]?) (hp:∀b off s n c,x=.slice (some ⟨b,off,s⟩) n c->0<n->P b):Ty w' x:=λb off s n c e h0=>by
 obtain⟨cur,hx⟩:=h b off s n c e h0;exact⟨cur,(hk b hx.lt (hp b off s n c e h0)).trans hx⟩
theorem Mv.keeps {Z:Nat->Prop} {w w':World} {m r t u c:Nat} {cs:Array Value} {v:Vm} (h:Mv Z w m r t u c cs v) (hk:∀b,b<w.heap.size->kS Z m r t u b->w'.heap[b]? =w.heap[b]?) (hr:∀b cur,Bx w b 99 cur->Bx w' b 99 cur) (hs:w.heap.size<=w'.heap.size):Mv Z w' m r t u c cs v where
 size:=h.size
 one:=h.one
 iX:=h.iX
 tag:=h.tag
 free:=by
  obtain⟨x,h1,h2,h3,h4⟩:=h.free;exact⟨x,h1,h2.keeps hk hs h3,h3,h4.keeps hk h3⟩
 refs:=h.refs
 dev:=by
  obtain⟨A,c,xs,h1,h2,h3,h4⟩:=h.dev;refine⟨A,c,xs,h1,h2.keeps hk hs (λb o s e _=>h4 b o s e),⟨h3.1,λi x s hx hs'=> ?_⟩,h4⟩;have q:=h3.2 i x s hx hs';exact⟨q.r,q.b.keeps hk hs q.q,q.t.keeps hk hs q.qt,q.bn,q.tn,q.i,q.q,q.qt⟩
 vS:=by
  obtain⟨A,c,h1,h2,h3⟩:=h.vS;exact⟨A,c,h1,h2.keeps hk hs h3,h3⟩
 live:=h.live
 root:=h.root
 rg:=λk hk'=>by
  obtain⟨x,h1,h2⟩:=h.rg k hk';exact⟨x,h1,h2.keep hr⟩
 ks:=h.ks
 used:=h.used
 fixed:=h.fixed
 hand:=h.hand
section
variable {w w':World} {N m r t u c:Nat} {Z:Nat->Prop} {cs:Array Value} {v:Vm}
theorem Mo.lt (h:Mo w N Z m r t u c cs v):m<w.heap.size/\r<w.heap.size/\t<w.heap.size/\u<w.heap.size:=by
 obtain⟨c1,h1⟩:=nI h.iX (by decide);obtain⟨c2,h2⟩:=nI h.tag (by decide);obtain⟨c3,h3⟩:=Kk h.us (by decide);exact⟨h.X.lt,h1.lt,h2.lt,h3.lt⟩
theorem Mo.ne (h:Mo w N Z m r t u c cs v):m≠r/\m≠t/\m≠u/\r≠u/\t≠u:=by
 obtain⟨c1,h1⟩:=nI h.iX (by decide);obtain⟨c2,h2⟩:=nI h.tag (by decide);obtain⟨c3,h3⟩:=Kk h.us (by decide);exact⟨gP h.X h1 (by decide),gP h.X h2 (by decide),gP h.X h3 (by decide),gP h1 h3 (by decide),gP h2 h3 (by decide)⟩
theorem Mo.below (h:Mo w N Z m r t u c cs v) (hb:Below w.heap.size w w'):Mo w' N Z m r t u c cs v:=by
 obtain⟨l1,l2,l3,l4⟩:=h.lt;exact⟨h.nm,h.nr,h.nt,h.nu,h.rt,λb hz=>Nat.lt_of_lt_of_le (h.zl b hz) hb.size,h.X.below hb,h.iX.same (hb.block _ l2),h.tag.same (hb.block _ l3),h.us.same (hb.block _ l4),h.V.keeps (λb hb' _=>hb.block b hb') (λb cur hx=>hx.below hb) hb.size⟩
theorem Mo.put {cs':Array Value} {v':Vm} (h:Mo w N Z m r t u c cs v) (hs:w.heap.size<=w'.heap.size) (hX:Bx w' m 69 cs') (hk:∀b,b<w.heap.size->b≠m->w'.heap[b]? =w.heap[b]?) (hz:v'.zs=v.zs) (ht:v'.ts=v.ts) (hu:v'.us=v.us) (hV:Mv Z w' m r t u c cs' v'):Mo w' N Z m r t u c cs' v':=by
 obtain⟨n1,n2,n3,_,_⟩:=h.ne;obtain⟨l1,l2,l3,l4⟩:=h.lt;refine⟨h.nm,h.nr,h.nt,h.nu,h.rt,λb hz=>Nat.lt_of_lt_of_le (h.zl b hz) hs,hX,?_,?_,?_,hV⟩
 ·rw[hz];exact h.iX.same (hk _ l2 (Ne.symm n1))
 ·rw[ht];exact h.tag.same (hk _ l3 (Ne.symm n2))
 ·rw[hu];exact h.us.same (hk _ l4 (Ne.symm n3))
theorem Mo.V' (h:Mo w N Z m r t u c cs v) (hk:∀b,b<w.heap.size->b≠m->w'.heap[b]? =w.heap[b]?) (hs:w.heap.size<=w'.heap.size):Mv Z w' m r t u c cs v:=
 h.V.keeps (λb hb ho=>hk b hb ho.1) (λb cur hx=>(hk b hx.lt (gP hx h.X (by decide))).trans hx) hs
end
theorem yV {w:World} {g i:Nat} {T:TypeId} {cs:Array Value} {x:Value} (h:Bx w g T cs):Bx (w.setCell ⟨g,i,none⟩ x) g T (cs.setIfInBounds i x):=h.set i x
theorem gW (w:World) (g i:Nat) (x:Value):∀b,b≠g->(w.setCell ⟨g,i,none⟩ x).heap[b]? =w.heap[b]? :=λb hb=>blk_setCell_other (λe=>hb e.symm)
section
variable {w w' W:World} {N m r t u c:Nat} {Z Z':Nat->Prop} {cs:Array Value} {v:Vm}
theorem kS.less {b:Nat} (h:kS Z m r t u b) (hz:∀b,Z' b->Z b):kS Z' m r t u b:=⟨h.1,h.2.1,h.2.2.1,h.2.2.2.1,λk=>h.2.2.2.2 (hz b k)⟩
theorem Mv.out (V:Mv Z w m r t u c cs v) (hz:∀b,b<w.heap.size->kS Z m r t u b->kS Z' m r t u b):Mv Z' w m r t u c cs v where
 size:=V.size
 one:=V.one
 iX:=V.iX
 tag:=V.tag
 free:=by
  obtain⟨x,h1,h2,h3,h4⟩:=V.free;exact⟨x,h1,h2,λb off s n c e h0=>by
   obtain⟨cur,hx⟩:=h4 b off s n c e h0;exact hz b hx.lt (h3 b off s n c e h0),h4⟩
 refs:=V.refs
 dev:=by
  obtain⟨A,c,xs,q,q2,q3,q4⟩:=V.dev;refine⟨A,c,xs,q,q2,⟨q3.1,λi x s hx hs'=> ?_⟩,λb o s e=> ?_⟩
  ·have z:=q3.2 i x s hx hs'
   refine⟨z.r,z.b,z.t,z.bn,z.tn,z.i,λh0 b o n e=> ?_,λh0 b o n e=> ?_⟩
   ·obtain⟨b',off,e',hb,_⟩:=z.b.2.2 h0
    have e2:=e;rw[e] at e';cases e';exact hz b hb (z.q h0 _ _ _ e2)
   ·obtain⟨b',off,e',hb,_⟩:=z.t.2.2 h0
    have e2:=e;rw[e] at e';cases e';exact hz b hb (z.qt h0 _ _ _ e2)
  ·obtain⟨b',off,e',hb,_⟩:=q2.2.2 (by decide)
   have e2:=e;rw[e] at e';cases e';exact hz b hb (q4 _ _ _ e2)
 vS:=by
  obtain⟨A,c,q,q2,q4⟩:=V.vS;refine⟨A,c,q,q2,λb o s e h0=> ?_⟩;obtain⟨b',off,e',hb,_⟩:=q2.2.2 h0;have e2:=e;rw[e] at e';cases e';exact hz b hb (q4 _ _ _ e2 h0)
 live:=V.live
 root:=V.root
 rg:=V.rg
 ks:=V.ks
 used:=V.used
 fixed:=V.fixed
 hand:=V.hand
theorem Mo.fresh {g:Nat} (h:Mo w N Z m r t u c cs v) (hb:Below w.heap.size w W) (hg:w.heap.size<=g) (hl:g<W.heap.size):Mo W N (λb=>Z b\/b=g) m r t u c cs v:=by
 have V1:Mv (λb=>Z b\/b=g) w m r t u c cs v:=h.V.out λb hb' ho=>⟨ho.1,ho.2.1,ho.2.2.1,ho.2.2.2.1,λk=>by
  rcases k with k|k
  ·exact ho.2.2.2.2 k
  ·omega⟩
 have k:=h.below hb;exact⟨k.nm,k.nr,k.nt,k.nu,k.rt,λb hz=>by
  rcases hz with hz|rfl
  ·exact k.zl b hz
  ·exact hl,k.X,k.iX,k.tag,k.us,V1.keeps (λb hb' _=>hb.block b hb') (λb cur hx=>hx.below hb) hb.size⟩
theorem Mo.less (h:Mo w N Z m r t u c cs v) (hz:∀b,Z' b->Z b):Mo w N Z' m r t u c cs v:=
 ⟨h.nm,h.nr,h.nt,h.nu,h.rt,λb k=>h.zl b (hz b k),h.X,h.iX,h.tag,h.us,h.V.out λb _ ho=>ho.less hz⟩
theorem Mo.other {g:Nat} {T:TypeId} {z:Array Value} (h:Mo w N Z m r t u c cs v) (hz:Z g) (hx:Bx w g T z) (h1:T≠69) (h2:T≠5) (h3:T≠4) (h4:T≠99) (hk:∀b,b≠g->W.heap[b]? =w.heap[b]?) (hs:w.heap.size<=W.heap.size):Mo W N Z m r t u c cs v:=by
 obtain⟨c1,x1⟩:=nI h.iX (by decide);obtain⟨c2,x2⟩:=nI h.tag (by decide);obtain⟨c3,x3⟩:=Kk h.us (by decide);exact⟨h.nm,h.nr,h.nt,h.nu,h.rt,λb k=>Nat.lt_of_lt_of_le (h.zl b k) hs,(hk m (gP h.X hx (Ne.symm h1))).trans h.X,h.iX.same (hk r (gP x1 hx (Ne.symm h2))),h.tag.same (hk t (gP x2 hx (Ne.symm h2))),h.us.same (hk u (gP x3 hx (Ne.symm h3))),
  h.V.keeps (λb _ ho=>hk b λe=>ho.2.2.2.2 (e▸hz)) (λb cur hx'=>(hk b (gP hx' hx (Ne.symm h4))).trans hx') hs⟩
end
end
section
section
variable {w:World} {N m r t u c:Nat} {Z:Nat->Prop} {cs:Array Value} {v:Vm}
theorem Mo.uE (h:Mo w N Z m r t u c cs v):w.cell? ⟨m,0,none⟩=some (.slice (some ⟨r,0,none⟩) 4096 4096):=(h.X.cell 0).trans h.V.iX
theorem Mo.aFT (h:Mo w N Z m r t u c cs v):w.cell? ⟨m,1,none⟩=some (.slice (some ⟨t,0,none⟩) 128 128):=(h.X.cell 1).trans h.V.tag
theorem Mo.aBb (h:Mo w N Z m r t u c cs v) {i:Nat} (hi:i<64):w.cell? ⟨m,3+i,none⟩=some (.int .i64 (v.rf i)):=(h.X.cell _).trans (h.V.refs i hi)
theorem Mo.Xt (h:Mo w N Z m r t u c cs v) {k:Nat} (hk:k<4):w.cell? ⟨m,69+k*11,none⟩=some (.bool (v.ps k).live):=(h.X.cell _).trans (h.V.live k hk)
theorem Mo.rE (h:Mo w N Z m r t u c cs v) {k:Nat} (hk:k<4):w.cell? ⟨m,69+k*11+1,none⟩=some (.int .i64 (v.ps k).root):=(h.X.cell _).trans (h.V.root k hk)
theorem Mo.Qf (h:Mo w N Z m r t u c cs v):w.cell? ⟨m,113,none⟩=some (.slice (some ⟨u,0,none⟩) 64 c):=(h.X.cell _).trans h.V.used
theorem Mo.Dw (h:Mo w N Z m r t u c cs v) {i:Nat} (hi:i<64):w.cell? ⟨m,114+i,none⟩=some (.bool (v.fx i)):=(h.X.cell _).trans (h.V.fixed i hi)
theorem Mo.aDc (h:Mo w N Z m r t u c cs v):w.cell? ⟨m,178,none⟩=some (.int .i64 v.hd):=(h.X.cell _).trans h.V.hand
theorem Mo.free (h:Mo w N Z m r t u c cs v) (i:Nat):w.frozen? ⟨m,i,none⟩=false:=h.X.free i
theorem Mo.size (h:Mo w N Z m r t u c cs v):m<w.heap.size:=h.X.lt
theorem Mo.hN (h:Mo w N Z m r t u c cs v):N<=w.heap.size:=by have:=h.X.lt;have:=h.nm;omega
theorem Mo.zY (h:Mo w N Z m r t u c cs v):Row .u8 w w.heap.size (some ⟨r,0,none⟩) 4096 v.zs:=h.iX.row
theorem Mo.aK3 (h:Mo w N Z m r t u c cs v):Row .u8 w w.heap.size (some ⟨t,0,none⟩) 128 v.ts:=h.tag.row
end
theorem mR (w:World):Calls Tryz.prog 67 #[.int .i64 0] w λe w'=>e=.returned (.tuple #[])/\w'=w:=by
 go_enter Tryz.func67,Tryz.ntmps67;go_wp2
 go_end0
 exact⟨rfl,rfl⟩
theorem aBj (k:Int) (w:World):Calls Tryz.prog 87 #[.int .i64 k] w λe w'=>e=.returned (.int .i64 (iU k))/\w'=w:=by
 unfold iU;by_cases h1:k=10
 ·subst h1
  go_enter Tryz.func87,Tryz.ntmps87;go_wp2;go_ret;exact⟨rfl,rfl⟩
 ·by_cases h2:k=12
  ·subst h2
   go_enter Tryz.func87,Tryz.ntmps87;go_wp2;go_ret;exact⟨rfl,rfl⟩
  ·rw[if_neg h1,if_neg h2]
   have e1:(k==10)=false:=by simpa using h1
   have e2:(k==12)=false:=by simpa using h2
   clear h1 h2;go_enter Tryz.func87,Tryz.ntmps87;go_wp2;go_ret;exact⟨rfl,rfl⟩
theorem aBo {w:World} {m r:Nat} (c0:w.cell? ⟨m,0,none⟩=some (.slice (some ⟨r,0,none⟩) 4096 4096)) (l0:m<w.heap.size) (f:Int) (h0:0<=f) (h1:f<64):
 Calls Tryz.prog 65 #[.pointer (some ⟨m,0,none⟩),.int .i64 f] w λe w'=>e=.returned (.slice (some ⟨r,(f*64).toNat,none⟩) 64 (4096 - (f*64).toNat))/\w'=w:=by
 obtain⟨p,hp⟩:∃p:Nat,f*64=p:=⟨(f*64).toNat,by omega⟩;have HF:Hid (fD f=p):=hZ (by unfold fD;rw[if_neg (by omega)];exact hp);have hpl:(p:Int)+64<=4096:=by omega
 rw[hp,Int.toNat_natCast];clear h0 h1 hp;go_enter Tryz.func65,Tryz.ntmps65;go_wp2_with(go_at_call 106;refine(kI f _).mono ?_;rintro e' w' ⟨rfl,hw⟩;rw[hw,HF.out];clear hw)
 go_ret;refine⟨?_,rfl⟩;simp
theorem J5 {w:World} {N m r t u c:Nat} {Z:Nat->Prop} {cs:Array Value} {v:Vm} (h:Mo w N Z m r t u c cs v) (f:Int) (h0:0<=f) (h1:f<64):
 Calls Tryz.prog 65 #[.pointer (some ⟨m,0,none⟩),.int .i64 f] w λe w'=>e=.returned (.slice (some ⟨r,(f*64).toNat,none⟩) 64 (4096 - (f*64).toNat))/\w'=w:=aBo h.uE h.size f h0 h1
end
theorem Dn (f:Int) (h0:0<=f) (h1:f<64) (w:World):Calls Tryz.prog 89 #[.int .i64 f] w λe w'=>e=.returned (.int .i64 (f*4))/\w'=w:=by
 go_enter Tryz.func89,Tryz.ntmps89;go_wp2;go_ret;exact⟨rfl,rfl⟩
theorem aKK {ts:List Int} (hl:ts.length=128) {g:Int} (h0:0<=g) (h1:g<256):J7 ts g=0:=by
 unfold J7;rw[hl,if_neg (by omega)]
theorem aJc (ts:List Int) (f:Int):∀k,k<=4->(jS ts f).take k=(List.range k).map λ(k:Nat)=>dZ ts (f*4+(k:Int)):=by
 intro k hk;unfold jS;rw[<-List.map_take,List.take_range];congr 2;omega
theorem Zj (ts:List Int) (f:Int):(jS ts f).length=4:=by simp[jS]
theorem aMD {w:World} {base:Nat} {val:Value} {zs:List Int} (h:Os fI 1 3 w base val zs):∃A c,val=.slice A zs.length c/\Own .i64 3 w base A zs.length c zs:=by
 refine Own.Ov ?_;have e:∀zs:List Int,zs.flatMap fI=zs.map (Value.int .i64):=λzs=>by
  induction zs with
  |nil=>rfl
  |cons z l ih=>rw[List.flatMap_cons,List.map_cons,ih];rfl
 unfold Os at h;rwa[e] at h
theorem Ia {w:World} {N m r t u c:Nat} {Z:Nat->Prop} {cs:Array Value} {v:Vm} (h:Mo w N Z m r t u c cs v) (hb:Bytes v.ts) (f:Int) (h0:0<=f) (h1:f<64):
 Calls Tryz.prog 66 #[.pointer (some ⟨m,0,none⟩),.int .i64 f] w λe w'=>∃A c,e=.returned (.slice A 4 c)/\Own .i64 3 w' w.heap.size A 4 c (jS v.ts f)/\Below w.heap.size w w':=by
 have HG:=hZ (λW (hW:Below w.heap.size w W) g=>aJb (some ⟨t,0,none⟩) 128 128 v.ts g W _ (h.aK3.below hW) hb hW.size (by decide));have HC:Hid (∀W,Below w.heap.size w W->W.cell? ⟨m,1,none⟩=some (.slice (some ⟨t,0,none⟩) 128 128)/\m<W.heap.size):=hZ (λW hW=>⟨(hW.cell (p:=⟨m,1,none⟩) h.size).trans h.aFT,Nat.lt_of_lt_of_le h.size hW.size⟩);have hl:v.ts.length=128:=h.tag.1;have HE:=hZ (λg h0 h1=>aKK hl (g:=g) h0 h1);have HT:=hZ (aJc v.ts f);clear hl h hb;go_enter Tryz.func66,Tryz.ntmps66;go_wp2;go_loopw [5,9] (λo i wr=>∃(k:Nat),k<=4/\i=.int .i64 k/\Hid (Os fI 1 3 wr w.heap.size o ((jS v.ts f).take k))/\Hid (Below w.heap.size w wr)) (λ_ i _=>4 - (intOf i).toNat)
 case atStart=>exact⟨0,by omega,rfl,hZ Os.nil,hZ (Below.refl _ _)⟩
 case round=>
  obtain⟨k,hk,rfl,HO,HB⟩:=hrel;have hsz:=HB.out.size;by_cases hlt:k<4
  ·obtain⟨c1,l1⟩:=HC.out _ HB.out
   have hki:(k:Int)<4:=by omega
   have hw:IntKind.i64.wrap (f*4+(k:Int))=f*4+(k:Int):=by rw[IntKind.wrap_i64];omega
   have hE:J7 v.ts (f*4+(k:Int))=0:=HE.out _ (by omega) (by omega);have HN:Hid ((jS v.ts f).take (k+1)=(jS v.ts f).take k++ [dZ v.ts (f*4+(k:Int))]):=hZ (by
    rw[HT.out _ (by omega),HT.out _ (by omega),List.range_succ,List.map_append];rfl)
   have jN:Hid (((jS v.ts f).take k).length=k):=hZ (by rw[HT.out _ (by omega)];simp);have HG2:=hZ (λn=>HG.out (wr.drewN n) (HB.out.trans (below_drewN _ _ _)) (f*4+(k:Int)));rw[hE] at HG2;generalize dZ v.ts (f*4+(k:Int))=x at*;clear hE;go_wp2_with fail
   go_quiet ((first|(go_at_call 89;exact Calls.quiet_of_same (Dn f h0 h1 _))|(go_at_call 112;exact Calls.quiet_of_same (HG2.out _))))
   have rX:Hid (Os fI 1 3 (wr.drewN nq) w.heap.size u5 ((jS v.ts f).take k)):=hZ (HO.out.below (below_drewN _ _ _) (nR _));have HB2:=hZ (HB.out.trans (below_drewN _ _ nq));have hsz2:w.heap.size<=(wr.drewN nq).heap.size:=HB2.out.size;go_wp2_with(first
    |(go_at_call 67;refine(mR _).mono ?_;rintro e w' ⟨rfl,hw⟩;rw[hw];clear hw)
    |(at_builtin;refine aDk rfl _ _ rfl w.heap.size u5 ((jS v.ts f).take k) (wr.drewN nq) x (wr.drewN nq).heap.size rfl rfl rfl rX.out hsz2 (by rw[jN.out];omega) ?_;intro g' c' w' ho hb3 hbg hcc hm;rw[jN.out,<-HN.out] at ho;rw[jN.out];rw[jN.out] at hcc))
   go_roundw
   case rel=>exact⟨k+1,by omega,by go_num,hZ (by exact ho),hZ (HB2.out.trans hb3)⟩
   case measure=>simp[intOf];omega
  ·have hk4:k=4:=by omega
   have zF:Hid (∃A c,u5=.slice A 4 c/\Own .i64 3 wr w.heap.size A 4 c (jS v.ts f)):=hZ (by
    have h1:=HO.out;rw[hk4,List.take_of_length_le (by rw[Zj];omega)] at h1;have:=aMD h1;rwa[Zj] at this)
   obtain⟨A,c',rfl,ho⟩:=zF.out;have HOX:=hZ ho;clear hk4 ho HO zF;go_wp2;go_ret;exact⟨A,c',rfl,HOX.out,HB.out⟩
end Go.Proofs.YtoogfmbojlpjaaaGreat
