/- Lemmas. -/
import Derived.Test.YtoogfmbojlpjaaaGreatQ5
import Derived.Deep.RegionLaw
import Derived.Test.YtoogfmbojlpjaaaGreatQA
set_option maxRecDepth 100000
set_option maxHeartbeats 32000000
set_option linter.unusedVariables false
set_option linter.unusedSimpArgs false
namespace Go.Proofs.YtoogfmbojlpjaaaGreat
open Go.ChangeShapes Go.WideShapes Go.ChangeAt Go.RowKit Go.Joins
theorem yD {P:Program} {ops:Array Oper} {o:Oper} {a:Act} {w:World} {K:Act->World->Prop} {Q:Exit->Act->World->Prop} {E:Prop}
 (hg:o.guard=none) (s x:Operand) (t:TypeId) (hop:o.op=Op.call { callee:=Callee.builtin Builtin.append,args:= #[s,x],argTypes:= #[t,t] })
 (base:Nat) (e:TypeId) (i:TypeInfo) (z:Value) (size bytes:Nat) (ht:P.underlying t=some (.slice e)) (hi:P.info? e=some i) (hz:i.zero=some z) (hsize:i.size=size) (hby:i.bytes=bytes) (hzs:z.cells.size=size) (hsz:0<size)
 (v:Value) (n:Nat) (xs:List Value) (hs:a.eval s=v) (hown:w.ownsRow base e size v n xs)
 (ad:Addr) (m c:Nat) (news:List Value) (hx:a.eval x=.slice (some ad) m c) (hl:news.length=m*size) (hnews:∀j u,news[j]? =some u->w.cell? (ad.add j)=some u) (h1:∀u∈news,u.oneCell'=true)
 (h63:n+m<=maxLen) (hbytes:(n+m)*bytes<=140737488355328) (hbase:base<=w.heap.size)
 (hK:∀v' w',w'.ownsRow base e size v' (n+m) (xs++news)->w.grownBy w' v.ownBlock->K (a.put o.dst v') w'):
 if Region.wanted o (yielded ops a.tmps)=true then Oper.wp P o a w K Q else E:=by
 have hw:Region.wanted o (yielded ops a.tmps)=true:=by simp[Region.wanted,hg]
 rw[if_pos hw];exact wp_append_own w s x t hop base e i z size bytes ht hi hz hsize hby hzs hsz v n xs hs hown ad m c news hx hl hnews h1 h63 hbytes hbase (λv' w' r1 r2 _=>hK v' w' r1 r2)
theorem qN {W:World} {T:TypeId} {vs:List Value} (j:Nat) (u:Value) (h:vs[j]? =some u):(W.alloc (.cells vs.toArray T)).cell? (Addr.add ⟨W.heap.size,0,none⟩ j)=some u:=by
 rw[addr_add,Nat.zero_add];simp only[World.cell?,World.alloc,Array.getElem?_push_size];rw[List.getElem?_toArray];exact h
theorem jY (B:Nat) (w:World):Below B w w.drew:=⟨rfl,rfl,rfl,nR _,λ_ _=>rfl⟩
theorem xJ {α:Type} {f:α->List Value} {sz:Nat} {T:TypeId} {w:World} {base n:Nat} {v:Value} {xs ys:List α} (h:w.ownsRow base T sz v n (xs.flatMap f++ys.flatMap f)) (hn:n=xs.length+ys.length):Os f sz T w base v (xs++ys):=by
 unfold Os;rw[List.flatMap_append,List.length_append,<-hn];exact h
theorem qL {B base n:Nat} {sz:Nat} {T:TypeId} {w w':World} {v:Value} {xs:List Value} (h:w.grownBy w' v.ownBlock) (ho:w.ownsRow base T sz v n xs) (hB:B<=base) (hb:base<=w.heap.size):Below B w w':=
 ⟨h.os,h.tape,h.output,h.size,λk hk=>h.block k (by omega) (by
   obtain⟨_,⟨rfl,_⟩|⟨g,cap,cur,rfl,hg,_⟩⟩:=ho
   ·simp[Value.ownBlock]
   ·simp[Value.ownBlock];omega)⟩
theorem zZ {w:World} {base sz n:Nat} {T:TypeId} {v:Value} {xs:List Value} (h:w.ownsRow base T sz v n xs) (hn:0<n):∃g c,v=.slice (some ⟨g,0,none⟩) n c/\base<=g/\n<=c/\c<=maxLen:=by
 obtain⟨_,⟨_,h0⟩|⟨g,cap,cur,rfl,hg,_,hc,hm,_⟩⟩:=h
 ·omega
 ·exact⟨g,cap,rfl,hg,hc,hm⟩
theorem nW {P:Program} {α:Type} {f:α->List Value} {sz bytes:Nat} {T Ts:TypeId} {z:Value} (ht:P.underlying Ts=some (.slice T)) (Uw:(P.info? T).map (λi=>(i.zero,i.size,i.bytes))=some (some z,sz,bytes)) (hzs:z.cells.size=sz) (hsz:0<sz) (hf:∀x,(f x).length=sz) (h1:∀x,∀u∈f x,u.oneCell'=true)
 {ops:Array Oper} {rest:List Oper} {o:Oper} {a:Act} {Q:Exit->Act->World->Prop} (hgd:o.guard=none) (s x:Operand) (ho:o.op=.call { callee:=.builtin .append,args:= #[s,x],argTypes:= #[Ts,Ts] })
 (base:Nat) (v:Value) (t:List α) (W:World) (c:α) (gx:Nat) (hs:a.eval s=v) (hx:a.eval x=.slice (some ⟨gx,0,none⟩) 1 1) (hgx:gx=W.heap.size) (hos:Os f sz T W base v t) (hb:base<=W.heap.size) (hlen:t.length+1<=maxLen) (hbytes:(t.length+1)*bytes<=140737488355328)
 (hK:∀g' c' w',Os f sz T w' base (.slice (some ⟨g',0,none⟩) (t.length+1) c') (t++ [c])->Below base W w'->base<=g'->t.length+1<=c'->c'<=maxLen->wpList P ops Q rest (a.put o.dst (.slice (some ⟨g',0,none⟩) (t.length+1) c')) w'):
 wpList P ops Q (o::rest) a (W.alloc (.cells (f c).toArray T)):=by
 subst hgx;obtain⟨i0,hi,hz0,hz1,hz2⟩:=info_parts Uw;have hW:Below W.heap.size W (W.alloc (.cells (f c).toArray T)):=(Below.refl _ _).alloc (nR _) _;have ho2:=hos.below hW (nR _);refine wpList_append_own _ hgd s x Ts ho base T i0 z sz bytes ht hi hz0 hz1 hz2 hzs hsz v t.length (t.flatMap f) hs ho2 ⟨W.heap.size,0,none⟩ 1 1 (f c) hx (by rw[hf,Nat.one_mul]) (λj u h=>qN j u h) (h1 c) hlen hbytes (by simp;omega) ?_;intro v' w' hown hgrow _;obtain⟨g3,c3,rfl,hg3,hc3,hm3⟩:=zZ hown (by omega);exact hK g3 c3 w' (xJ (ys:=[c]) (by simpa using hown) (by simp)) ((hW.mono hb).trans (qL hgrow ho2 (nR _) (by simp;omega))) hg3 hc3 hm3
end Go.Proofs.YtoogfmbojlpjaaaGreat
namespace Go.Proofs.YtoogfmbojlpjaaaGreat
theorem aGD {P:Program} {ops:Array Oper} {o:Oper} {a:Act} {w:World} {K:Act->World->Prop} {Q:Exit->Act->World->Prop} {E:Prop} {Φ:Ending->World->Prop} (f:FuncId) (args:Array Value)
 (hg:o.guard=none) (he:(execOp a.eval o).run P w=.ok (.enter f args) w) (hc:Calls P f args w Φ) (hΦ:∀e w',Φ e w'->∃v,e=.returned v) (hK:∀v w',Φ (.returned v) w'->K (a.put o.dst v) w'):
 if Region.wanted o (yielded ops a.tmps)=true then Oper.wp P o a w K Q else E:=by
 have hw:Region.wanted o (yielded ops a.tmps)=true:=by simp[Region.wanted,hg]
 rw[if_pos hw];unfold Oper.wp;rw[he,Oper.upon_enter];refine hc.mono λe w' h=> ?_;obtain⟨v,rfl⟩:=hΦ e w' h;exact hK v w' h
end Go.Proofs.YtoogfmbojlpjaaaGreat
namespace Go.Proofs.YtoogfmbojlpjaaaGreat
open Go.ChangeShapes Go.WideShapes Go.ChangeAt Go.RowKit Go.Joins
theorem Os.form {α:Type} {f:α->List Value} {sz:Nat} {T:TypeId} {w:World} {base:Nat} {v:Value} {xs:List α} (h:Os f sz T w base v xs):∃A c,v=.slice A xs.length c/\xs.length<=c/\c<=maxLen:=by
 obtain⟨_,⟨rfl,h0⟩|⟨g,cap,cur,rfl,_,_,hn,hm,_⟩⟩:=h
 ·exact⟨none,0,by rw[h0],by omega,Nat.zero_le _⟩
 ·exact⟨_,cap,rfl,hn,hm⟩
theorem aDP {P:Program} {α:Type} {f:α->List Value} {sz bytes:Nat} {T Ts:TypeId} {z:Value} (ht:P.underlying Ts=some (.slice T)) (Uw:(P.info? T).map (λi=>(i.zero,i.size,i.bytes))=some (some z,sz,bytes)) (hzs:z.cells.size=sz) (hsz:0<sz) (hf:∀x,(f x).length=sz) (h1:∀x,∀u∈f x,u.oneCell'=true)
 {ops:Array Oper} {rest:List Oper} {o:Oper} {a:Act} {Q:Exit->Act->World->Prop} (hgd:o.guard=none) (s x:Operand) (ho:o.op=.call { callee:=.builtin .append,args:= #[s,x],argTypes:= #[Ts,Ts] })
 (base:Nat) (v:Value) (t:List α) (W:World) (B:Nat) (ad:Addr) (m c:Nat) (ys:List α) (hs:a.eval s=v) (hx:a.eval x=.slice (some ad) m c) (hos:Os f sz T W base v t) (hr:Rw f sz W B (some ad) m ys) (hb:base<=W.heap.size) (hlen:t.length+m<=maxLen) (hbytes:(t.length+m)*bytes<=140737488355328)
 (hK:∀A' c' w',Os f sz T w' base (.slice A' (t.length+m) c') (t++ys)->Below base W w'->t.length+m<=c'->c'<=maxLen->wpList P ops Q rest (a.put o.dst (.slice A' (t.length+m) c')) w'):
 wpList P ops Q (o::rest) a W:=by
 obtain⟨i0,hi,hz0,hz1,hz2⟩:=info_parts Uw;have hm:=hr.1;obtain⟨hl,hc⟩:=Rw.cells hf hsz hr;refine wpList_append_own _ hgd s x Ts ho base T i0 z sz bytes ht hi hz0 hz1 hz2 hzs hsz v t.length (t.flatMap f) hs hos ad m c (ys.flatMap f) hx hl hc (λu hu=>by obtain⟨y,_,hy⟩:=List.mem_flatMap.1 hu;exact h1 y u hy) hlen hbytes hb ?_;intro v' w' hown hgrow _;have ho2:=xJ hown (by rw[hm]);obtain⟨A',c',e,hc1,hc2⟩:=ho2.form;subst e;rw[List.length_append,hm] at*;exact hK A' c' w' ho2 (qL hgrow hos (nR _) hb) hc1 hc2
theorem aDD (F:Array Value) (s j:Nat) (u:Value) (vs:List Value) (hb:s+vs.length<=F.size) (hj:j<vs.length) (h1:vs[j]? =some u) (h2:∀m v,m≠j->vs[m]? =some v->F[s+m]? =some v):Go.Sort.setMany F s vs=F.setIfInBounds (s+j) u:=by
 apply Array.ext_getElem?;intro t;rw[yE vs s F t hb];by_cases h:s<=t/\t<s+vs.length
 ·rw[if_pos h]
  by_cases e:t=s+j
  ·subst e
   rw[Nat.add_sub_cancel_left,h1,Array.getElem?_setIfInBounds_self_of_lt (by omega)]
  ·rw[Array.getElem?_setIfInBounds_ne (λh=>e h.symm)]
   obtain⟨v,hv⟩:∃v,vs[t -s]? =some v:=⟨_,List.getElem?_eq_getElem (by omega)⟩;have:=h2 (t -s) v (by omega) hv;rw[show s+(t -s)=t by omega] at this;rw[hv,this]
 ·rw[if_neg h,Array.getElem?_setIfInBounds_ne (by omega)]
theorem Os.aBL {α:Type} {f:α->List Value} {sz:Nat} {T:TypeId} {w:World} {base n c g i:Nat} {xs:List α} (hf:∀x,(f x).length=sz) (hs:0<sz) (h:Os f sz T w base (.slice (some ⟨g,0,none⟩) n c) xs) {x y:α} {u:Value} (j:Nat) (hi:xs[i]? =some x) (hj:(f y)[j]? =some u) (hx:∀m v,m≠j->(f y)[m]? =some v->(f x)[m]? =some v):Os f sz T (w.setCell ⟨g,i*sz+j,none⟩ u) base (.slice (some ⟨g,0,none⟩) n c) (xs.set i y):=by
 have hil:i<xs.length:=(List.getElem?_eq_some_iff.1 hi).1;have h1:=h.set hf hs hil y;obtain⟨g',cur,e,rfl,hg,hh,hn,hm,hz,hxs⟩:=h.inv;injection e with e;subst e;have hb1:=uO (f y) (i*sz) w cur hh;have hb2:=uO [u] (i*sz+j) w cur hh;have hjl:=(List.getElem?_eq_some_iff.1 hj).1;have hbd:i*sz+(f y).length<=cur.size:=by
  have h3:(i+1)*sz<=c*sz:=Nat.mul_le_mul_right _ (by omega);rw[Nat.succ_mul] at h3;rw[hf,hz];exact h3
 have e2:Go.Sort.setMany cur (i*sz) (f y)=Go.Sort.setMany cur (i*sz+j) [u]:=by
  rw[aDD cur (i*sz) j u (f y) hbd hjl hj λm v hm hv=> ?_]
  ·rfl
  ·have h2:=(h.cells hf hi m v (hx m v hm hv)).1
   rwa[dW hh] at h2
 rw[e2] at hb1;have hb3:(w.setCell ⟨g,i*sz+j,none⟩ u).heap[g]? =(w.setCells g (i*sz) (f y)).heap[g]? :=by rw[hb1];exact hb2
 obtain⟨q1,⟨q,_⟩|⟨g2,cap2,aO4,q,r1,r2,r3,r4,r5,r6⟩⟩:=h1
 ·cases q
 ·refine⟨q1,.inr ⟨g2,cap2,aO4,q,r1,?_,r3,r4,r5,r6⟩⟩
  injection q with q _ _;injection q with q;injection q with q;subst q;rw[hb3];exact r2
end Go.Proofs.YtoogfmbojlpjaaaGreat
