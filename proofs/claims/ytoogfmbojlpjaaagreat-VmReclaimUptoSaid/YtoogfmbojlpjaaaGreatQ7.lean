/- Lemmas. -/
import Derived.Test.YtoogfmbojlpjaaaGreatQ6
import Derived.ArgAppend
import Derived.Test.YtoogfmbojlpjaaaGreatQA
set_option maxRecDepth 100000
set_option maxHeartbeats 32000000
set_option linter.unusedVariables false
set_option linter.unusedSimpArgs false
namespace Go.Proofs.YtoogfmbojlpjaaaGreat
open Go.ChangeShapes Go.WideShapes Go.ChangeAt Go.RowKit Go.Joins
def Apart (u v:Value):Prop:=u.ownBlock=none\/u.ownBlock≠v.ownBlock
theorem Apart.symm {u v:Value} (h:Apart u v):Apart v u:=by
 rcases h with h|h
 ·unfold Apart
  rw[h];cases hv:v.ownBlock with
  |none=>exact .inl rfl
  |some k=>exact .inr (by simp)
 ·exact .inr (λe=>h e.symm)
theorem Os.frame {α:Type} {f:α->List Value} {sz:Nat} {T:TypeId} {w w':World} {base:Nat} {u v:Value} {xs:List α} (h:Os f sz T w base v xs) (hg:w.grownBy w' u.ownBlock) (ha:Apart v u):Os f sz T w' base v xs:=by
 obtain⟨h1,h|⟨g,cap,cur,rfl,h2,hh,hn,hm,hz,hx⟩⟩:=h
 ·exact⟨h1,.inl h⟩
 ·refine⟨h1,.inr ⟨g,cap,cur,rfl,h2,(hg.block g (kM hh) ?_).trans hh,hn,hm,hz,hx⟩⟩
  rcases ha with h|h
  ·simp[Value.ownBlock] at h
  ·exact h
theorem Os.jE {α:Type} {f:α->List Value} {sz:Nat} {T:TypeId} {w:World} {base:Nat} {v:Value} {xs:List α} (h:Os f sz T w base v xs):∀k,v.ownBlock=some k->k<w.heap.size/\base<=k:=by
 intro k hk;obtain⟨h1,⟨rfl,_⟩|⟨g,cap,cur,rfl,h2,hh,hn,hm,hz,hx⟩⟩:=h
 ·simp[Value.ownBlock] at hk
 ·simp[Value.ownBlock] at hk
  subst hk;exact⟨kM hh,h2⟩
theorem Apart.grown {w:World} {v u:Value} {g:Nat} {n c:Nat} (h:Apart u v) (hg:some g=v.ownBlock\/w.heap.size<=g) (hu:∀k,u.ownBlock=some k->k<w.heap.size):Apart u (.slice (some ⟨g,0,none⟩) n c):=by
 cases hk:u.ownBlock with
 |none=>exact .inl hk
 |some k=>
  refine .inr ?_;rw[hk];simp only[Value.ownBlock];intro e;injection e with e;have e:k=g:=e;subst e;rcases hg with hg|hg
  ·rcases h with h|h
   ·rw[h] at hk;cases hk
   ·exact h (hk.trans hg)
  ·have:=hu k hk;omega
theorem Os.push {α:Type} {f:α->List Value} {sz:Nat} {T:TypeId} {w:World} {base g n c:Nat} {xs:List α} (hf:∀x,(f x).length=sz) (h:Os f sz T w base (.slice (some ⟨g,0,none⟩) n c) xs) (hr:n+1<=c) (y:α):Os f sz T (w.setCells g (n*sz) (f y)) base (.slice (some ⟨g,0,none⟩) (n+1) c) (xs++ [y]):=by
 obtain⟨g',cur,e,rfl,hg,hh,hn,hm,hz,hx⟩:=h.inv;injection e with e;subst e;have hb:xs.length*sz+sz<=c*sz:=by
  have:(xs.length+1)*sz<=c*sz:=Nat.mul_le_mul_right _ hr;rw[Nat.succ_mul] at this;exact this
 have hl:(xs++ [y]).length=xs.length+1:=by simp
 have:=Os.mk (f:=f) (xs:=xs++ [y]) (c:=c) hg (uO (f y) (xs.length*sz) w cur hh) (by omega) hm (by rw[Go.Sort.size_setMany];exact hz) hf (by
  apply List.ext_getElem?;intro m;rw[hl,Nat.succ_mul,List.getElem?_take,List.flatMap_append];split
  ·rename_i hm2
   rw[Array.getElem?_toList,yE _ _ _ _ (by rw[hf];omega),hf];by_cases h2:m<xs.length*sz
   ·rw[if_neg (by omega),List.getElem?_append_left (by rw[iV hf];exact h2),<-hx,List.getElem?_take,if_pos h2,Array.getElem?_toList]
   ·rw[if_pos (by omega),List.getElem?_append_right (by rw[iV hf];omega),iV hf]
    simp
  ·rw[List.getElem?_eq_none]
   rw[List.length_append,iV hf,iV hf];simp;omega)
 rwa[hl] at this
theorem yZ {g:Nat} :∀(vs:List Value) (o:Nat) (w:World) (k:Nat),k≠g->(w.setCells g o vs).heap[k]? =w.heap[k]?
 | [],_,_,_,_=>rfl
 |v::r,o,w,k,h=>by
  unfold World.setCells;rw[yZ r (o+1) _ k h];simp[World.setCell,Array.getElem?_modify,Ne.symm h]
theorem Az {g:Nat} :∀(vs:List Value) (o:Nat) (w:World),(w.setCells g o vs).os=w.os/\(w.setCells g o vs).tape=w.tape/\(w.setCells g o vs).output=w.output
 | [],_,_=>⟨rfl,rfl,rfl⟩
 |v::r,o,w=>by unfold World.setCells;exact Az r (o+1) _
theorem Lt {P:Program} {α:Type} {f:α->List Value} {sz bytes:Nat} {T Ts:TypeId} {z:Value} (ht:P.underlying Ts=some (.slice T)) (Uw:(P.info? T).map (λi=>(i.zero,i.size,i.bytes))=some (some z,sz,bytes)) (hzs:z.cells.size=sz) (hsz:0<sz) (hf:∀x,(f x).length=sz) (h1:∀x,∀u∈f x,u.oneCell'=true)
 {ops:Array Oper} {rest:List Oper} {o:Oper} {a:Act} {Q:Exit->Act->World->Prop} (hgd:o.guard=none) (s x:Operand) (ho:o.op=.call { callee:=.builtin .append,args:= #[s,x],argTypes:= #[Ts,Ts] })
 (base:Nat) (v:Value) (t:List α) (W:World) (c:α) (gx:Nat) (hs:a.eval s=v) (hx:a.eval x=.slice (some ⟨gx,0,none⟩) 1 1) (hgx:gx=W.heap.size) (hos:Os f sz T W base v t) (hb:base<=W.heap.size) (hlen:t.length+1<=maxLen) (hbytes:(t.length+1)*bytes<=140737488355328)
 (hK:∀g' c' w',Os f sz T w' base (.slice (some ⟨g',0,none⟩) (t.length+1) c') (t++ [c])->W.grownBy w' v.ownBlock->(some g'=v.ownBlock\/W.heap.size<=g')->base<=g'->t.length+1<=c'->c'<=maxLen->wpList P ops Q rest (a.put o.dst (.slice (some ⟨g',0,none⟩) (t.length+1) c')) w'):
 wpList P ops Q (o::rest) a (W.alloc (.cells (f c).toArray T)):=by
 subst hgx;obtain⟨i0,hi,hz0,hz1,hz2⟩:=info_parts Uw;have hW:Below W.heap.size W (W.alloc (.cells (f c).toArray T)):=(Below.refl _ _).alloc (nR _) _;have ho2:=hos.below hW (nR _);have hsz2:(W.alloc (.cells (f c).toArray T)).heap.size=W.heap.size+1:=by simp
 have grow:∀v' w',w'.ownsRow (W.alloc (.cells (f c).toArray T)).heap.size T sz v' (t.length+1) (t.flatMap f++f c)->(W.alloc (.cells (f c).toArray T)).grownBy w' none->wpList P ops Q rest (a.put o.dst v') w':=λv' w' hown hgrow=>by
  obtain⟨g3,c3,rfl,hg3,hc3,hm3⟩:=zZ hown (by omega);have hg4:W.heap.size<=g3:=by omega
  exact hK g3 c3 w' ((xJ (ys:=[c]) (by simpa using hown) (by simp)).gD (by omega)) ⟨hgrow.os,hgrow.tape,hgrow.output,by have:=hgrow.size;omega,λk hk hne=>(hgrow.block k (by omega) (by simp)).trans (hW.block k hk)⟩ (.inr hg4) (by omega) hc3 hm3
 rcases hos with⟨q1,⟨rfl,q2⟩|⟨g,cap,cur,rfl,hg,hh,hn,hm,hz,hxs⟩⟩
 ·obtain rfl:=List.eq_nil_of_length_eq_zero q2
  exact wpList_append_grows (P:=P) (W.alloc (.cells (f c).toArray T)) hgd s x Ts ho T i0 z sz bytes ht hi hz0 hz1 hz2 hzs hsz none 0 0 [] hs (λ_=>⟨rfl,rfl⟩) (by simp) (λb hb=>by cases hb) ⟨W.heap.size,0,none⟩ 1 1 (f c) hx (by rw[hf,Nat.one_mul]) (λj u h=>qN j u h) (h1 c) (by omega) (by simpa using hlen) (by simpa using hbytes) (λv' w' h2 h3=>grow v' w' (by simpa using h2) h3)
 ·have hgl:=kM hh
  have hcells:∀j u,(t.flatMap f)[j]? =some u->(W.alloc (.cells (f c).toArray T)).cell? ⟨g,0+j,none⟩=some u:=λj u hj=>by
   obtain⟨y,hy1,hy2⟩:=aCQ hf hsz t j u hj;have:=(ho2.cells hf hy1 _ u hy2).1;rwa[Nat.div_add_mod',<-Nat.zero_add j] at this
  refine wpList_append_arg (P:=P) (W.alloc (.cells (f c).toArray T)) hgd s x Ts ho T i0 z sz bytes ht hi hz0 hz1 hz2 hzs hsz g 0 t.length cap (t.flatMap f) hs q1 hcells ⟨W.heap.size,0,none⟩ 1 1 (f c) hx (by rw[hf,Nat.one_mul]) (λj u h=>qN j u h) (h1 c) (λhr j hj=> ?_) (by simpa using hlen) (by simpa using hbytes) (λhr=> ?_) (λ_=>grow)
  ·have hb2:t.length*sz+sz<=cap*sz:=by
    have:(t.length+1)*sz<=cap*sz:=Nat.mul_le_mul_right _ hr;rw[Nat.succ_mul] at this;exact this
   rw[hf] at hj;have Sn:=(hW.block g hgl).trans hh;rw[dW Sn,gQ Sn];refine⟨?_,rfl⟩;rw[Array.getElem?_eq_getElem (by omega)];rfl
  ·rw[Nat.zero_add]
   have hp:=ho2.push hf hr c;refine hK g cap _ hp ⟨(Az _ _ _).1,(Az _ _ _).2.1,(Az _ _ _).2.2,by rw[setCells_size];omega,λk hk hne=> ?_⟩ (.inl rfl) hg hr hm;rw[yZ _ _ _ _ (λe=>hne (by simp[Value.ownBlock,e]))];exact hW.block k hk
end Go.Proofs.YtoogfmbojlpjaaaGreat
