/- Lemmas. -/
import Derived.Test.YtoogfmbojlpjaaaGreatRows
import Derived.BigQuiet
import Derived.Lib.QuietBelow
import Derived.Test.YtoogfmbojlpjaaaGreatQA
set_option maxRecDepth 100000
set_option maxHeartbeats 32000000
set_option linter.unusedVariables false
set_option linter.unusedSimpArgs false
namespace Go.Proofs.YtoogfmbojlpjaaaGreat
open Go Go.RowKit
section
section
variable {P:Program} {ops:Array Oper}
def oG (P:Program) (o:Oper) (a:Act) (w:World) (v:Value):Prop:=
 (execOp a.eval o).run P w=.ok (.value v) w\/((execOp a.eval o).run P w=.ok .skip w/\v=undef)
def becomes (P:Program) (o:Oper) (a:Act) (w:World) (Φ:Value->World->Prop):Prop:=
 match(execOp a.eval o).run P w with
 | .ok (.value v) w'=>Below w.heap.size w w'/\Φ v w'
 | .ok .skip w'=>Below w.heap.size w w'/\Φ undef w'
 | .ok (.enter f args) w'=>Calls P f args w' λe w''=>∃v,e=.returned v/\Below w.heap.size w w''/\Φ v w''
 |_=>False
def ahead (ops:Array Oper):Nat->List (List Nat)
 |0=>[]
 |k+1=>
  let L:=ahead ops k;let ds:=match ops[k]? with|some o=>(o.after.toList.filter (Region.binds .any)).map (λe:Edge=>e.on)|none=>([]:List Nat)
  L++ [ds.foldl (λs d=>(d::L.getD d []).foldl (λs x=>if s.contains x then s else x::s) s) []]
def Jo (ops:Array Oper) (k j:Nat):Bool:=((ahead ops (k+1)).getD k []).contains j
def aW (T:List (List Nat)) (k j:Nat):Bool:=(T.getD k []).contains j
def dA (ops:Array Oper) (k:Nat):Option Tmp:=(ops[k]?).bind (·.dst)
def yF (ops:Array Oper) (T:List (List Nat)):Bool:=
 Region.noSelect ops&&(List.range ops.size).all λk=>
  match ops[k]? with
  |none=>true
  |some o=>
   (o.after.toList.all λe=> !Region.binds .any e||(decide (e.on<k)&&aW T k e.on))&&
   ((T.getD k []).all λj=>decide (j<k)&&(o.after.toList.any λe=>Region.binds .any e&&(e.on==j||aW T e.on j))&&((T.getD j []).all λi=>aW T k i))&&
   ((List.range k).all λj=>(dA ops j).isNone||dA ops j !=o.dst)&&
   ((List.range ops.size).all λj=>match dA ops j with|none=>true|some d=> !(o.looksAt ops).contains d||aW T k j)
structure Sp where
 at_:Nat
 shape:Value->Prop
 fact:Value->World->Prop
 inh:∃v,shape v
 keeps:∀v w w',fact v w->Below w.heap.size w w'->fact v w'
def wR (S:List Sp) (k:Nat):Option Sp:=S.find? (λs=>s.at_==k)
def shapeOf (S:List Sp) (k:Nat) (v:Value):Prop:=match wR S k with|some s=>s.shape v|none=>True
def fQ (P:Program) (ops:Array Oper) (T:List (List Nat)) (S:List Sp) (w0:World) (V:Nat->Value) (Q:Act->World->Prop):List Oper->Nat->List (Nat×(World->Prop))->Act->Prop
 | [],_,G,a=>∀w,Below w0.heap.size w0 w->(∀p∈G,p.2 w)->Q a w
 |o::rest,k,G,a=>
  if Region.wanted o (yielded ops a.tmps) then
   match wR S k with
   |some s=>(∀w,Below w0.heap.size w0 w->(∀p∈G,aW T k p.1=true->p.2 w)->becomes P o a w λv w'=>s.shape v/\s.fact v w')/\
     fQ P ops T S w0 V Q rest (k+1) ((k,s.fact (V k))::G) (a.put o.dst (V k))
   |none=>∃v,(∀w,Below w0.heap.size w0 w->(∀p∈G,aW T k p.1=true->p.2 w)->oG P o a w v)/\fQ P ops T S w0 V Q rest (k+1) G (a.put o.dst v)
  else fQ P ops T S w0 V Q rest (k+1) G (a.put o.dst undef)
def bJ (ops:Array Oper) (a0:Act) (vals:Nat->Value):Nat->Act
 |0=>a0
 |k+1=>(bJ ops a0 vals k).put (dA ops k) (vals k)
theorem jC {a0:Act} {vals aR:Nat->Value} :∀k,(∀j,j<k->vals j=aR j)->bJ ops a0 vals k=bJ ops a0 aR k
 |0,_=>rfl
 |k+1,h=>by simp only[bJ];rw[jC k (λj hj=>h j (by omega)),h k (by omega)]
def dQ (ops:Array Oper) (a0:Act) (vals:Nat->Value) (k:Nat) (o:Oper):Bool:=Region.wanted o (yielded ops (bJ ops a0 vals k).tmps)
def tN (ops:Array Oper) (S:List Sp) (a0:Act) (vals:Nat->Value) (j:Nat) (w:World):Prop:=
 ∀s o,wR S j=some s->ops[j]? =some o->dQ ops a0 vals j o=true->s.fact (vals j) w
def Ei (P:Program) (ops:Array Oper) (T:List (List Nat)) (S:List Sp) (w0:World) (V:Nat->Value) (a0:Act) (vals:Nat->Value) (k:Nat) (o:Oper):Prop:=
    (dQ ops a0 vals k o=false->vals k=undef)/\
    (dQ ops a0 vals k o=true->match wR S k with
      |some s=>vals k=V k/\∀w,Below w0.heap.size w0 w->(∀j,aW T k j=true->j<k->tN ops S a0 vals j w)->becomes P o (bJ ops a0 vals k) w λv w'=>s.shape v/\s.fact v w'
      |none=>∀w,Below w0.heap.size w0 w->(∀j,aW T k j=true->j<k->tN ops S a0 vals j w)->oG P o (bJ ops a0 vals k) w (vals k))
structure Lex (P:Program) (ops:Array Oper) (T:List (List Nat)) (S:List Sp) (w0:World) (V:Nat->Value) (Q:Act->World->Prop) (a0:Act) (vals:Nat->Value):Prop where
 step:∀k o,ops[k]? =some o->Ei P ops T S w0 V a0 vals k o
 last:∀w,Below w0.heap.size w0 w->(∀j,j<ops.size->tN ops S a0 vals j w)->Q (bJ ops a0 vals ops.size) w
theorem E9 {S:List Sp} {a0:Act} {vals aR:Nat->Value} {j:Nat} {w:World} (h:∀i,i<=j->vals i=aR i) (hf:tN ops S a0 vals j w):tN ops S a0 aR j w:=by
 intro s o hs ho hw;rw[<-h j (nR _)];refine hf s o hs ho ?_;unfold dQ at*;rw[jC j (λi hi=>h i (by omega))];exact hw
theorem aBF {T:List (List Nat)} {S:List Sp} {w0:World} {V:Nat->Value} {a0:Act} {vals aR:Nat->Value} {k:Nat} {o:Oper} (h:∀i,i<=k->vals i=aR i)
 (hs:Ei P ops T S w0 V a0 vals k o):Ei P ops T S w0 V a0 aR k o:=by
 have hl:bJ ops a0 vals k=bJ ops a0 aR k:=jC k (λi hi=>h i (by omega));have hw:dQ ops a0 vals k o=dQ ops a0 aR k o:=by unfold dQ;rw[hl]
 unfold Ei at*;rw[<-hl,<-hw,<-h k (nR _)];refine⟨hs.1,λhw=> ?_⟩;have h2:=hs.2 hw;cases hsp:wR S k with
 |some s=>
  rw[hsp] at h2;exact⟨h2.1,λw hb hf=>h2.2 w hb (λj hj hjk=>E9 (λi hi=>(h i (by omega)).symm) (hf j hj hjk))⟩
 |none=>
  rw[hsp] at h2;exact λw hb hf=>h2 w hb (λj hj hjk=>E9 (λi hi=>(h i (by omega)).symm) (hf j hj hjk))
def Knows (ops:Array Oper) (S:List Sp) (a0:Act) (vals:Nat->Value) (k:Nat) (G:List (Nat×(World->Prop))):Prop:=
 ∀p∈G,p.1<k/\∀w,tN ops S a0 vals p.1 w->p.2 w
theorem Kz {T:List (List Nat)} {S:List Sp} {w0:World} {V:Nat->Value} {Q:Act->World->Prop} {a0:Act} :
 ∀(l:List Oper) (k:Nat) (G:List (Nat×(World->Prop))) (vals:Nat->Value),(∀j,l[j]? =ops[k+j]?)->k+l.length=ops.size->Knows ops S a0 vals k G->
 (∀j o,j<k->ops[j]? =some o->Ei P ops T S w0 V a0 vals j o)->fQ P ops T S w0 V Q l k G (bJ ops a0 vals k)->∃aR,Lex P ops T S w0 V Q a0 aR
 | [],k,G,vals,hl,hk,hG,hs,h=>by
   have hkn:k=ops.size:=by simpa using hk
   refine⟨vals,λj o ho=>hs j o ?_ ho,λw hb hf=> ?_⟩
   ·have:=(Array.getElem?_eq_some_iff.1 ho).1;omega
   ·rw[<-hkn]
    exact h w hb λp hp=>(hG p hp).2 w (hf _ (by have:=(hG p hp).1;omega))
 |o::rest,k,G,vals,hl,hk,hG,hs,h=>by
  have h0:ops[k]? =some o:=by simpa using(hl 0).symm
  have hd:o.dst=dA ops k:=by simp[dA,h0]
  have hrest:∀j,rest[j]? =ops[k+1+j]? :=λj=>by have:=hl (j+1);simpa[Nat.add_assoc,Nat.add_comm 1 j] using this
  have hlen:k+1+rest.length=ops.size:=by simp at hk;omega
  have hwant:∀v,dQ ops a0 (λj=>if j=k then v else vals j) k o=Region.wanted o (yielded ops (bJ ops a0 vals k).tmps):=λv=>by
   unfold dQ;rw[jC k (aR:=vals) (λj hj=>by simp;omega)]
  have uU:∀v,bJ ops a0 (λj=>if j=k then v else vals j) k=bJ ops a0 vals k:=λv=>jC k (λj hj=>by simp;omega);have hold:∀v j o',j<k->ops[j]? =some o'->Ei P ops T S w0 V a0 (λj=>if j=k then v else vals j) j o':=λv j o' hj ho'=>
   aBF (λi hi=>by simp;omega) (hs j o' hj ho')
  have hfact:∀v j w,j<k->tN ops S a0 (λj=>if j=k then v else vals j) j w->tN ops S a0 vals j w:=λv j w hj hf=>
   E9 (λi hi=>by simp;omega) hf
  have hnext:∀v,bJ ops a0 (λj=>if j=k then v else vals j) (k+1)=(bJ ops a0 vals k).put o.dst v:=λv=>by
   simp only[bJ];rw[uU,hd];simp
  have Pt:∀v,Knows ops S a0 (λj=>if j=k then v else vals j) (k+1) G:=λv p hp=>by
   obtain⟨h1,h2⟩:=hG p hp;exact⟨by omega,λw hf=>h2 w (hfact v _ _ h1 hf)⟩
  have go:∀v G',Knows ops S a0 (λj=>if j=k then v else vals j) (k+1) G'->Ei P ops T S w0 V a0 (λj=>if j=k then v else vals j) k o->
   fQ P ops T S w0 V Q rest (k+1) G' ((bJ ops a0 vals k).put o.dst v)->∃aR,Lex P ops T S w0 V Q a0 aR:=λv G' hG' hk' hr=>by
   refine Kz rest (k+1) G' _ hrest hlen hG' (λj o' hj ho'=> ?_) (by rw[hnext];exact hr);rcases Nat.lt_succ_iff_lt_or_eq.1 hj with hj|rfl
   ·exact hold v j o' hj ho'
   ·rw[h0] at ho';cases ho';exact hk'
  unfold fQ at h;by_cases hw:Region.wanted o (yielded ops (bJ ops a0 vals k).tmps)=true
  ·rw[if_pos hw] at h
   cases hsp:wR S k with
   |some s=>
    rw[hsp] at h;obtain⟨h1,h2⟩:=h;refine go (V k) _ (λp hp=> ?_) ?_ h2
    ·rcases List.mem_cons.1 hp with rfl|hp
     ·refine⟨Nat.lt_succ_self _,λw hf=> ?_⟩
      have:=hf s o hsp h0 (by rw[hwant];exact hw);simpa using this
     ·exact Pt _ p hp
    ·refine⟨λhw'=>(by rw[hwant,hw] at hw';cases hw'),λ_=> ?_⟩
     rw[hsp];refine⟨by simp,λw hb hf=> ?_⟩;rw[uU];exact h1 w hb λp hp oI=>(hG p hp).2 w (hfact _ _ _ (hG p hp).1 (hf _ oI (hG p hp).1))
   |none=>
    rw[hsp] at h;obtain⟨v,h1,h2⟩:=h;refine go v G (Pt v) ?_ h2;refine⟨λhw'=>(by rw[hwant,hw] at hw';cases hw'),λ_=> ?_⟩;rw[hsp];intro w hb hf;rw[uU];simp only[if_true];exact h1 w hb λp hp oI=>(hG p hp).2 w (hfact _ _ _ (hG p hp).1 (hf _ oI (hG p hp).1))
  ·rw[if_neg hw] at h
   refine go undef G (Pt _) ⟨λ_=>by simp,λhw'=> ?_⟩ h;rw[hwant] at hw';exact absurd hw' hw
structure pF (ops:Array Oper) (T:List (List Nat)):Prop where
 sel:∀(j:Nat) (o:Oper) (cs:Array SelectCase) (b:Bool),ops[j]? =some o->o.op≠ .select cs b
 edge:∀k o,ops[k]? =some o->∀e∈o.after,Region.binds .any e=true->e.on<k/\aW T k e.on=true
 Jo:∀k o,ops[k]? =some o->∀j,aW T k j=true->j<k/\(∃e∈o.after,Region.binds .any e=true/\(e.on=j\/aW T e.on j=true))/\∀i,aW T j i=true->aW T k i=true
 dst:∀k o,ops[k]? =some o->∀j d,j<k->dA ops j=some d->o.dst≠some d
 look:∀k o,ops[k]? =some o->∀j d,dA ops j=some d->d∈o.looksAt ops->aW T k j=true
theorem En {T:List (List Nat)} (h:yF ops T=true):pF ops T:=by
 unfold yF at h;simp only[Bool.and_eq_true] at h;obtain⟨hs,h⟩:=h;have H:∀k o,ops[k]? =some o->_:=λk o ho=>by
  have hk:k<ops.size:=(Array.getElem?_eq_some_iff.1 ho).1;have:=List.all_eq_true.1 h k (List.mem_range.2 hk);simp only[ho,Bool.and_eq_true] at this;exact this
 refine⟨λj o cs b=>Region.noSelect_spec hs j o cs b,λk o ho e he hb=> ?_,λk o ho j hj=> ?_,λk o ho j d hj hd=> ?_,λk o ho j d hd hl=> ?_⟩
 ·have:=List.all_eq_true.1 (H k o ho).1.1.1 e (by simpa using he)
  simpa[hb] using this
 ·have:=List.all_eq_true.1 (H k o ho).1.1.2 j (by unfold aW at hj;simpa using hj)
  simp only[Bool.and_eq_true,decide_eq_true_eq] at this;obtain⟨⟨h1,h2⟩,h3⟩:=this;refine⟨h1,?_,λi hi=>List.all_eq_true.1 h3 i (by unfold aW at hi;simpa using hi)⟩;obtain⟨e,he,hb⟩:=List.any_eq_true.1 h2;simp only[Bool.and_eq_true,Bool.or_eq_true,beq_iff_eq] at hb;exact⟨e,by simpa using he,hb⟩
 ·have:=List.all_eq_true.1 (H k o ho).1.2 j (List.mem_range.2 hj)
  rw[hd] at this;simp at this;exact λe=>this e.symm
 ·have hj:j<ops.size:=by
   unfold dA at hd;rcases Nat.lt_or_ge j ops.size with h|h
   ·exact h
   ·rw[Array.getElem?_eq_none h] at hd;simp at hd
  have:=List.all_eq_true.1 (H k o ho).2 j (List.mem_range.2 hj);rw[hd] at this;simpa[hl] using this
theorem Kh (a:Act) (d:Option Tmp) (v:Value):(a.put d v).tmps.size=a.tmps.size:=by cases d<;>simp[Act.put]
theorem put_defers (a:Act) (d:Option Tmp) (v:Value):(a.put d v).defers=a.defers:=by cases d<;>simp[Act.put]
theorem Bo (a:Act) (d:Option Tmp) (v:Value) (t:Tmp) (h:d≠some t):(a.put d v).tmps[t]? =a.tmps[t]? :=by
 cases d with
 |none=>rfl
 |some d=>simp only[Act.put];exact Array.getElem?_setIfInBounds_ne (λe=>h (by rw[e]))
theorem put_eq (a:Act) (v:Value) (t:Tmp) (h:t<a.tmps.size):(a.put (some t) v).tmps[t]? =some v:=by
 simp only[Act.put];exact Array.getElem?_setIfInBounds_self_of_lt h
theorem rT (a0:Act) (vals:Nat->Value):∀k,(bJ ops a0 vals k).tmps.size=a0.tmps.size
 |0=>rfl
 |k+1=>by simp only[bJ];rw[Kh];exact rT a0 vals k
theorem Bd (a0:Act) (vals:Nat->Value):∀k,(bJ ops a0 vals k).defers=a0.defers
 |0=>rfl
 |k+1=>by simp only[bJ];rw[put_defers];exact Bd a0 vals k
theorem wX (a0:Act) (vals:Nat->Value) (t:Tmp):∀k,(∀j,j<k->dA ops j≠some t)->(bJ ops a0 vals k).tmps[t]? =a0.tmps[t]?
 |0,_=>rfl
 |k+1,h=>by
  simp only[bJ];rw[Bo _ _ _ _ (h k (by omega))];exact wX a0 vals t k (λj hj=>h j (by omega))
theorem Ae (a0:Act) (vals:Nat->Value) (t:Tmp) (ht:t<a0.tmps.size) (j:Nat) (hj:dA ops j=some t):∀k,j<k->(∀i,j<i->i<k->dA ops i≠some t)->(bJ ops a0 vals k).tmps[t]? =some (vals j)
 |0,h,_=>by omega
 |k+1,h,hi=>by
  simp only[bJ];rcases Nat.lt_succ_iff_lt_or_eq.1 h with h|rfl
  ·rw[Bo _ _ _ _ (hi k h (by omega))]
   exact Ae a0 vals t ht j hj k h (λi h1 h2=>hi i h1 (by omega))
  ·rw[hj];exact put_eq _ _ _ (by rw[rT];exact ht)
theorem Yx {o:Oper} {a a':Act} (hs:∀cs b,o.op≠ .select cs b) (h:∀t∈o.looksAt ops,a.tmps[t]? =a'.tmps[t]?):
 execOp a.eval o=execOp a'.eval o/\Region.wanted o (yielded ops a.tmps)=Region.wanted o (yielded ops a'.tmps):=by
 refine⟨execOp_congr o hs λx hx=> ?_,?_⟩
 ·cases x with
  |tmp t=>
   have:=h t (List.mem_append_left _ (List.mem_filterMap.2 ⟨.tmp t,by simpa using hx,rfl⟩));simp[Act.eval,Array.getD_eq_getD_getElem?,this]
  |_=>rfl
 ·unfold Region.wanted
  cases hg:o.guard with
  |none=>rfl
  |some gw=>
   obtain⟨g,want⟩:=gw;have hy:yielded ops a.tmps g=yielded ops a'.tmps g:=by
    unfold yielded;cases ht:(ops[g]?).bind (·.dst) with
    |none=>rfl
    |some t=>
     have:=h t (by simp[Oper.looksAt,hg,ht]);simp only[Option.bind_some,this]
   simp only[hy]
theorem Ha {p q:Nat->Bool} (h:∀x,q x=true->p x=true) {i:Nat} (hp:p i=true) (hq:q i=false):∀l:List Nat,i∈l->l.countP q<l.countP p
 | [],hi=>by cases hi
 |x::l,hi=>by
  have hle:∀l:List Nat,l.countP q<=l.countP p:=λl=>List.countP_mono_left (λx _=>h x);rcases List.mem_cons.1 hi with rfl|hi
  ·rw[List.countP_cons_of_neg (by simp[hq]),List.countP_cons_of_pos hp]
   have:=hle l;omega
  ·have:=Ha h hp hq l hi
   by_cases hqx:q x=true
   ·rw[List.countP_cons_of_pos hqx,List.countP_cons_of_pos (h x hqx)];omega
   ·rw[List.countP_cons_of_neg hqx]
    by_cases hpx:p x=true
    ·rw[List.countP_cons_of_pos hpx];omega
    ·rw[List.countP_cons_of_neg hpx];omega
structure Inv (P:Program) (ops:Array Oper) (T:List (List Nat)) (S:List Sp) (w0:World) (Q:Act->World->Prop) (a0:Act) (L:Nat->Prop) (act:Nat->Value) (a:Act) (w:World):Prop where
 grown:Below w0.heap.size w0 w
 closed:∀j,L j->∀i,aW T j i=true->L i
 defers:a.defers=a0.defers
 tY:a.tmps.size=a0.tmps.size
 off:∀t,(∀j,L j->dA ops j≠some t)->a.tmps[t]? =a0.tmps[t]?
 on:∀j,L j->∀d,dA ops j=some d->d<a0.tmps.size->a.tmps[d]? =some (act j)
 cert:∀j,L j->∀V vals,Lex P ops T S w0 V Q a0 vals->(∀i,aW T j i=true->vals i=act i)->(shapeOf S j (act j)->V j=act j)->vals j=act j
 yR:∀j,L j->∀V vals,Lex P ops T S w0 V Q a0 vals->(∀i,aW T j i=true->vals i=act i)->vals j=act j->tN ops S a0 vals j w
section
variable {T:List (List Nat)} {S:List Sp} {w0:World} {Q:Act->World->Prop} {a0:Act}
theorem Inv.look {L:Nat->Prop} {act:Nat->Value} {a:Act} {w:World} (ok:pF ops T) (I:Inv P ops T S w0 Q a0 L act a w) {k:Nat} {o:Oper} (ho:ops[k]? =some o)
 (hL:∀j,aW T k j=true->L j) {vals:Nat->Value} (hv:∀j,aW T k j=true->vals j=act j):∀t∈o.looksAt ops,a.tmps[t]? =(bJ ops a0 vals k).tmps[t]? :=by
 intro t ht;by_cases hj:∃j,dA ops j=some t
 ·obtain⟨j,hj⟩:=hj
  have oI:=ok.look k o ho j t hj ht;have hjk:=(ok.Jo k o ho j oI).1;by_cases hs:t<a0.tmps.size
  ·rw[I.on j (hL j oI) t hj hs,Ae a0 vals t hs j hj k hjk ?_,hv j oI]
   intro i h1 h2 hi;have hio:i<ops.size:=by have:=(Array.getElem?_eq_some_iff.1 ho).1;omega
   exact ok.dst i ops[i] (Array.getElem?_eq_getElem hio) j t h1 hj (by simpa[dA,Array.getElem?_eq_getElem hio] using hi)
  ·have hs':a0.tmps.size<=t:=Nat.le_of_not_lt hs
   rw[Array.getElem?_eq_none (by rw[I.tY];exact hs'),Array.getElem?_eq_none (by rw[rT];exact hs')]
 ·rw[I.off t (λj _ h=>hj ⟨j,h⟩),wX a0 vals t k (λj _ h=>hj ⟨j,h⟩)]
theorem Inv.vals {L:Nat->Prop} {act:Nat->Value} {a:Act} {w:World} (ok:pF ops T) (I:Inv P ops T S w0 Q a0 L act a w) (hLn:∀j,L j->j<ops.size) {V vals:Nat->Value} (hx:Lex P ops T S w0 V Q a0 vals)
 (hV:∀j,L j->shapeOf S j (act j)->V j=act j):∀n j,j<n->L j->vals j=act j
 |0,_,h,_=>by omega
 |n+1,j,h,hj=>by
  have hjo:=Array.getElem?_eq_getElem (hLn j hj);exact I.cert j hj V vals hx (λi hi=>Inv.vals ok I hLn hx hV n i (by have:=(ok.Jo j _ hjo i hi).1;omega) (I.closed j hj i hi)) (hV j hj)
theorem Inv.facts {L:Nat->Prop} {act:Nat->Value} {a:Act} {w:World} (ok:pF ops T) (I:Inv P ops T S w0 Q a0 L act a w) {k:Nat} {o:Oper} (ho:ops[k]? =some o) (hL:∀j,aW T k j=true->L j) {V vals:Nat->Value}
 (hx:Lex P ops T S w0 V Q a0 vals) (hv:∀j,aW T k j=true->vals j=act j):∀j,aW T k j=true->j<k->tN ops S a0 vals j w:=
 λj hj _=>I.yR j (hL j hj) V vals hx (λi hi=>hv i ((ok.Jo k o ho j hj).2.2 i hi)) (hv j hj)
theorem Inv.more {L:Nat->Prop} {act:Nat->Value} {a:Act} {w w':World} (ok:pF ops T) (I:Inv P ops T S w0 Q a0 L act a w) {k:Nat} {o:Oper} (ho:ops[k]? =some o) (hL:∀j,aW T k j=true->L j) (hk:¬L k) (hLn:∀j,L j->j<ops.size)
 (hb:Below w.heap.size w w') (v:Value)
 (hc:∀V vals,Lex P ops T S w0 V Q a0 vals->(∀i,aW T k i=true->vals i=act i)->(shapeOf S k v->V k=v)->vals k=v)
 (hf:∀V vals,Lex P ops T S w0 V Q a0 vals->(∀i,aW T k i=true->vals i=act i)->vals k=v->tN ops S a0 vals k w'):
 Inv P ops T S w0 Q a0 (λj=>L j\/j=k) (λj=>if j=k then v else act j) (a.put o.dst v) w':=by
 have hd:dA ops k=o.dst:=by simp[dA,ho]
 have hne:∀j,L j->j≠k:=λj hj e=>hk (e▸hj);have aCz:∀j,L j->∀d,dA ops j=some d->dA ops k≠some d:=λj hj d hjd hkd=>by
  obtain⟨oj,hjo⟩:∃oj,ops[j]? =some oj:=⟨_,Array.getElem?_eq_getElem (hLn j hj)⟩;have aCv:oj.dst=some d:=by simpa[dA,hjo] using hjd
  rcases Nat.lt_or_gt_of_ne (hne j hj) with h|h
  ·exact ok.dst k o ho j d h hjd (by rw[<-hd];exact hkd)
  ·exact ok.dst j _ hjo k d h hkd aCv
 have hback:∀j,L j->∀vals:Nat->Value,(∀i,aW T j i=true->vals i=if i=k then v else act i)->∀i,aW T j i=true->vals i=act i:=λj hj vals h i hi=>by
  rw[h i hi,if_neg (hne i (I.closed j hj i hi))]
 have hkk:∀vals:Nat->Value,(∀i,aW T k i=true->vals i=if i=k then v else act i)->∀i,aW T k i=true->vals i=act i:=λvals h i hi=>by
  rw[h i hi,if_neg (hne i (hL i hi))]
 refine⟨I.grown.trans (hb.mono I.grown.size),?_,by rw[put_defers];exact I.defers,by rw[Kh];exact I.tY,?_,?_,?_,?_⟩
 ·rintro j (hj|rfl) i hi
  ·exact .inl (I.closed j hj i hi)
  ·exact .inl (hL i hi)
 ·intro t ht
  rw[Bo _ _ _ _ (by rw[<-hd];exact ht k (.inr rfl))];exact I.off t λj hj=>ht j (.inl hj)
 ·rintro j (hj|rfl) d hjd hs
  ·rw[Bo _ _ _ _ (by rw[<-hd];exact aCz j hj d hjd),I.on j hj d hjd hs,if_neg (hne j hj)]
  ·rw[if_pos rfl]
   rw[hd] at hjd;rw[hjd];exact put_eq _ _ _ (by rw[I.tY];exact hs)
 ·rintro j (hj|rfl) V vals hx hv hV
  ·rw[if_neg (hne j hj)] at hV⊢
   exact I.cert j hj V vals hx (hback j hj vals hv) hV
  ·rw[if_pos rfl] at hV⊢
   exact hc V vals hx (hkk vals hv) hV
 ·rintro j (hj|rfl) V vals hx hv Gt
  ·rw[if_neg (hne j hj)] at Gt
   intro s o' hs ho' hw;exact s.keeps _ _ _ (I.yR j hj V vals hx (hback j hj vals hv) Gt s o' hs ho' hw) hb
  ·rw[if_pos rfl] at Gt
   exact hf V vals hx (hkk vals hv) Gt
theorem nT {listed:Array Bool} {i j:Nat} (h:i<listed.size):(listed.setIfInBounds i true).getD j false=true↔listed.getD j false=true\/j=i:=by
 by_cases e:j=i
 ·subst e
  simp[Array.getD_eq_getD_getElem?,Array.getElem?_setIfInBounds_self_of_lt h]
 ·have h1:(listed.setIfInBounds i true).getD j false=listed.getD j false:=getD_set_ne false (λh=>e h.symm)
  rw[h1];simp[e]
theorem zB (ok:pF ops T) {listed:Array Bool} (hs:listed.size=ops.size) (h:Region.ready .any ops listed=[]):∀n j,j<n->j<ops.size->listed.getD j false=true
 |0,_,h,_=>by omega
 |n+1,j,hj,hjn=>by
  cases hd:listed.getD j false with
  |true=>rfl
  |false=>
   have ho:=Array.getElem?_eq_getElem hjn;have:j∈Region.ready .any ops listed:=mem_ready.2 ⟨by
    simp only[Array.getD_eq_getD_getElem?] at*;rw[Array.getElem?_eq_getElem (by omega)] at*;simpa using hd,_,ho,λe he hb=>by
    have:=(ok.edge j _ ho e he hb).1;exact zB ok hs h n e.on (by omega) (by omega)⟩
   rw[h] at this;cases this
theorem Nn {Q:Exit->Act->World->Prop} {K:Act->World->Prop} {i:Nat} {o:Oper} {a:Act} {w:World} (ho:ops[i]? =some o) (hw:Region.wanted o (yielded ops a.tmps)=false) (h:K (a.put o.dst undef) w):wpOp P ops Q i K a w:=by
 unfold wpOp;simp only[ho,hw];exact h
theorem Nl {Q:Exit->Act->World->Prop} {K:Act->World->Prop} {i:Nat} {o:Oper} {a:Act} {w:World} (ho:ops[i]? =some o) (hw:Region.wanted o (yielded ops a.tmps)=true) (h:o.wp P a w K Q):wpOp P ops Q i K a w:=by
 unfold wpOp;simp only[ho,hw,if_true];exact .inl h
theorem Xx {Qe:Exit->Act->World->Prop} (ok:pF ops T) (hin:∀V:Nat->Value,(∀k,shapeOf S k (V k))->∃vals,Lex P ops T S w0 V (Qe .normal) a0 vals):
 ∀(fuel:Nat) (listed:Array Bool) (act:Nat->Value) (a:Act) (w:World),listed.size=ops.size->(List.range ops.size).countP (λi=> !listed.getD i false)<=fuel->
 Inv P ops T S w0 (Qe .normal) a0 (λj=>listed.getD j false=true) act a w->wpAny P .any ops Qe fuel listed a w:=by
 have pick:∀k,∃v,shapeOf S k v:=λk=>by
  unfold shapeOf;cases wR S k with
  |some s=>exact s.inh
  |none=>exact⟨undef,trivial⟩
 have fit:∀(listed:Array Bool) (act:Nat->Value),∃V vals,Lex P ops T S w0 V (Qe .normal) a0 vals/\∀j,listed.getD j false=true->shapeOf S j (act j)->V j=act j:=λlisted act=>by
  have hV:∀k,∃v,shapeOf S k v/\(listed.getD k false=true->shapeOf S k (act k)->v=act k):=λk=>by
   by_cases h:listed.getD k false=true/\shapeOf S k (act k)
   ·exact⟨_,h.2,λ_ _=>rfl⟩
   ·obtain⟨v,hv⟩:=pick k
    exact⟨v,hv,λh1 h2=>absurd ⟨h1,h2⟩ h⟩
  refine⟨λk=>Classical.choose (hV k),?_⟩;obtain⟨vals,hx⟩:=hin (λk=>Classical.choose (hV k)) (λk=>(Classical.choose_spec (hV k)).1);exact⟨vals,hx,λj=>(Classical.choose_spec (hV j)).2⟩
 have hlt:∀(listed:Array Bool),listed.size=ops.size->∀j,listed.getD j false=true->j<ops.size:=λlisted hs j hj=>by
  rcases Nat.lt_or_ge j listed.size with h|h
  ·omega
  ·simp[Array.getD_eq_getD_getElem?,Array.getElem?_eq_none h] at hj
 have done:∀(listed:Array Bool) (act:Nat->Value) (a:Act) (w:World),listed.size=ops.size->Inv P ops T S w0 (Qe .normal) a0 (λj=>listed.getD j false=true) act a w->(∀j,j<ops.size->listed.getD j false=true)->Qe .normal a w:=by
  intro listed act a w hs I hall;obtain⟨V,vals,hx,hV⟩:=fit listed act;have hv:∀j,j<ops.size->vals j=act j:=λj hj=>Inv.vals ok I (hlt listed hs) hx hV ops.size j hj (hall j hj);have hf:∀j,j<ops.size->tN ops S a0 vals j w:=λj hj=>
   I.yR j (hall j hj) V vals hx (λi hi=>hv i (hlt listed hs i (I.closed j (hall j hj) i hi))) (hv j hj)
  have:=hx.last w I.grown hf;have ha:bJ ops a0 vals ops.size=a:=by
   have h1:(bJ ops a0 vals ops.size).defers=a.defers:=by rw[Bd,I.defers]
   have h2:(bJ ops a0 vals ops.size).tmps=a.tmps:=by
    apply Array.ext_getElem?;intro t;by_cases hj:∃j,dA ops j=some t
    ·obtain⟨j,hj⟩:=hj
     have hjn:j<ops.size:=by
      rcases Nat.lt_or_ge j ops.size with h|h
      ·exact h
      ·unfold dA at hj;rw[Array.getElem?_eq_none h] at hj;simp at hj
     by_cases hts:t<a0.tmps.size
     ·rw[I.on j (hall j hjn) t hj hts,Ae a0 vals t hts j hj ops.size hjn ?_,hv j hjn]
      intro i h1 h2 hi;exact ok.dst i ops[i] (Array.getElem?_eq_getElem h2) j t h1 hj (by simpa[dA,Array.getElem?_eq_getElem h2] using hi)
     ·have Pm:a0.tmps.size<=t:=Nat.le_of_not_lt hts
      rw[Array.getElem?_eq_none (by rw[rT];exact Pm),Array.getElem?_eq_none (by rw[I.tY];exact Pm)]
    ·rw[I.off t (λj _ h=>hj ⟨j,h⟩),wX a0 vals t _ (λj _ h=>hj ⟨j,h⟩)]
   cases h:bJ ops a0 vals ops.size;cases a;rw[h] at h1 h2;simp only at h1 h2;rw[h1,h2]
  rw[ha] at this;exact this
 have stp:∀(listed:Array Bool) (act:Nat->Value) (a:Act) (w:World),listed.size=ops.size->Inv P ops T S w0 (Qe .normal) a0 (λj=>listed.getD j false=true) act a w->∀i∈Region.ready .any ops listed,∀K:Act->World->Prop,
  (∀act' a' w',Inv P ops T S w0 (Qe .normal) a0 (λj=>(listed.setIfInBounds i true).getD j false=true) act' a' w'->K a' w')->wpOp P ops Qe i K a w:=by
  intro listed act a w hs I i hi K hK;obtain⟨hnl,o,ho,Gy⟩:=mem_ready.1 hi;have hin':i<ops.size:=(Array.getElem?_eq_some_iff.1 ho).1;have Gx:¬(listed.getD i false=true):=by
   intro h;have:listed.getD i true=listed.getD i false:=by
    simp only[Array.getD_eq_getD_getElem?];rw[Array.getElem?_eq_getElem (by omega)];rfl
   rw[this,h] at hnl;cases hnl
  have hL:∀j,aW T i j=true->listed.getD j false=true:=λj hj=>by
   obtain⟨_,⟨e,he,hb,h⟩,_⟩:=ok.Jo i o ho j hj;rcases h with rfl|h
   ·exact Gy e he hb
   ·exact I.closed e.on (Gy e he hb) j h
  obtain⟨V,vals,hx,hV⟩:=fit listed act;have hv:∀j,aW T i j=true->vals j=act j:=λj hj=>Inv.vals ok I (hlt listed hs) hx hV ops.size j (hlt listed hs j (hL j hj)) (hL j hj);have hsel:=λcs b=>ok.sel i o cs b ho;have agree:∀aR:Nat->Value,(∀j,aW T i j=true->aR j=act j)->execOp a.eval o=execOp (bJ ops a0 aR i).eval o/\Region.wanted o (yielded ops a.tmps)=dQ ops a0 aR i o:=λaR hv'=>
   Yx hsel (I.look ok ho hL hv')
  have hset:∀act' a' w',Inv P ops T S w0 (Qe .normal) a0 (λj=>listed.getD j false=true\/j=i) act' a' w'->K a' w':=λact' a' w' I'=>by
   refine hK act' a' w' ?_;have:(λj=>(listed.setIfInBounds i true).getD j false=true)=(λj=>listed.getD j false=true\/j=i):=funext λj=>propext (nT (by omega));rw[this];exact I'
  obtain⟨s1,s2⟩:=hx.step i o ho;obtain⟨he,xN⟩:=agree vals hv;have Bu:=I.facts ok ho hL hx hv;cases hw:dQ ops a0 vals i o with
  |false=>
   refine Nn ho (by rw[xN,hw]) ?_;refine hset _ _ _ (I.more ok ho hL Gx (hlt listed hs) (Below.refl _ _) undef ?_ ?_)
   ·intro V' aR hx' hv' _
    exact(hx'.step i o ho).1 (by rw[<-(agree aR hv').2,xN,hw])
   ·intro V' aR hx' hv' _ s o' _ ho' hw'
    rw[ho] at ho';cases ho';rw[<-(agree aR hv').2,xN,hw] at hw';cases hw'
  |true=>
   refine Nl ho (by rw[xN,hw]) ?_;have s3:=s2 hw;cases hsp:wR S i with
   |some s=>
    rw[hsp] at s3;obtain⟨hvi,aCB⟩:=s3;have hb:=aCB w I.grown Bu;have fin:∀v w',Below w.heap.size w w'->s.shape v/\s.fact v w'->K (a.put o.dst v) w':=λv w' hbw hsf=>by
     refine hset _ _ _ (I.more ok ho hL Gx (hlt listed hs) hbw v ?_ ?_)
     ·intro V' aR hx' hv' hVs
      have h5:=(hx'.step i o ho).2 (by rw[<-(agree aR hv').2,xN,hw]);rw[hsp] at h5;rw[h5.1];exact hVs (by unfold shapeOf;rw[hsp];exact hsf.1)
     ·intro V' aR hx' hv' hvk s' o' hs' _ _
      rw[hsp] at hs';cases hs';rw[hvk];exact hsf.2
    unfold becomes at hb;unfold Oper.wp;rw[he];generalize(execOp (bJ ops a0 vals i).eval o).run P w=r at*;cases r with
    |halt x w'=>exact hb.elim
    |ok n w'=>
     cases n<;>first|exact fin _ _ hb.1 hb.2|(simp only at hb;done)|skip
     all_goals first
      |(refine Calls.mono hb ?_
        rintro e w'' ⟨v,rfl,h1,h2⟩;exact fin _ _ h1 h2)
      |exact hb.elim
   |none=>
    rw[hsp] at s3;have uD:=s3 w I.grown Bu;have fin:K (a.put o.dst (vals i)) w:=by
     refine hset _ _ _ (I.more ok ho hL Gx (hlt listed hs) (Below.refl _ _) (vals i) ?_ ?_)
     ·intro V' aR hx' hv' _
      have h5:=(hx'.step i o ho).2 (by rw[<-(agree aR hv').2,xN,hw]);rw[hsp] at h5;have h6:=h5 w I.grown (I.facts ok ho hL hx' hv');have h7:=(agree aR hv').1;rw[he] at h7;unfold oG at uD h6;rw[<-h7] at h6;rcases uD with h|⟨h,h'⟩<;>rcases h6 with g|⟨g,g'⟩
      ·rw[h] at g;injection g with g _;injection g with g;exact g.symm
      ·rw[h] at g;cases g
      ·rw[h] at g;cases g
      ·rw[h',g']
     ·intro V' aR hx' hv' _ s' o' hs' _ _
      rw[hsp] at hs';cases hs'
    unfold Oper.wp;rw[he];unfold oG at uD;rcases uD with h|⟨h,h'⟩
    ·rw[h];exact fin
    ·rw[h];rw[h'] at fin;exact fin
 intro fuel
 induction fuel with
 |zero=>
  intro listed act a w hs hc I;have hall:∀j,j<ops.size->listed.getD j false=true:=λj hj=>by
   have h0:(List.range ops.size).countP (λi=> !listed.getD i false)=0:=by omega
   have:=List.countP_eq_zero.1 h0 j (List.mem_range.2 hj);simpa using this
  refine⟨?_,done listed act a w hs I hall⟩;cases hr:Region.ready .any ops listed with
  |nil=>rfl
  |cons x l=>
   have hx:x∈Region.ready .any ops listed:=by rw[hr];exact List.mem_cons_self
   obtain⟨h1,o,ho,_⟩:=mem_ready.1 hx;have hxn:x<ops.size:=(Array.getElem?_eq_some_iff.1 ho).1;have h2:=hall x hxn;simp only[Array.getD_eq_getD_getElem?] at h1 h2;rw[Array.getElem?_eq_getElem (by omega)] at h1 h2;simp only[Option.getD_some] at h1 h2;rw[h1] at h2;cases h2
 |succ fuel ih=>
  intro listed act a w hs hc I;refine⟨λhr=>done listed act a w hs I (λj hj=>zB ok hs hr ops.size j hj hj),λi hi=> ?_⟩;obtain⟨hnl,o,ho,_⟩:=mem_ready.1 hi;have hin':i<ops.size:=(Array.getElem?_eq_some_iff.1 ho).1;refine stp listed act a w hs I i hi _ λact' a' w' I'=>ih _ act' a' w' (by simpa using hs) ?_ I';have hfi:listed.getD i false=false:=by
   simp only[Array.getD_eq_getD_getElem?] at*;rw[Array.getElem?_eq_getElem (by omega)] at*;simpa using hnl
  have:=Ha (p:=λj=> !listed.getD j false) (q:=λj=> !(listed.setIfInBounds i true).getD j false) (i:=i) (λx hx=>by
   cases h:listed.getD x false with
   |false=>rfl
   |true=>
    have h9:=(nT (listed:=listed) (i:=i) (j:=x) (by omega)).2 (.inl h);simp[h9] at hx) (by simp[hfi]) (by
    have h9:=(nT (listed:=listed) (i:=i) (j:=i) (by omega)).2 (.inr rfl);simp[h9]) (List.range ops.size) (List.mem_range.2 hin')
  omega
end
theorem aA1 {id:Nat} {Q:Exit->Act->World->Prop} {a:Act} {w:World} {l:List Oper} (S:List Sp) (T:List (List Nat)) (hm:P.follows .mixedOrders=true) (hB:yF l.toArray T=true)
 (h:∀V:Nat->Value,(∀k,shapeOf S k (V k))->fQ P l.toArray T S w V (Q .normal) l 0 [] a):(Code.region id l.toArray true).wp P Q a w:=by
 have ok:=En hB;refine wp_region_any hm (Xx (S:=S) (w0:=w) (a0:=a) ok (λV hV=> ?_) _ _ (λ_=>undef) _ _ (by simp) (by have:=List.countP_le_length (p:=λi=> !(Array.replicate l.toArray.size false).getD i false) (l:=List.range l.toArray.size);simpa using this) ?_)
 ·exact Kz l 0 [] (λ_=>undef) (by simp) (by simp) (λp hp=>by cases hp) (λj o hj=>by omega) (h V hV)
 ·have hno:∀j,¬((Array.replicate l.toArray.size false).getD j false=true):=λj hj=>by
   simp only[Array.getD_eq_getD_getElem?,Array.getElem?_replicate] at hj;split at hj<;>simp at hj
  exact⟨⟨rfl,rfl,rfl,nR _,λ_ _=>rfl⟩,λj hj=>absurd hj (hno j),rfl,rfl,λ_ _=>rfl,λj hj=>absurd hj (hno j),λj hj=>absurd hj (hno j),λj hj=>absurd hj (hno j)⟩
end
end
end Go.Proofs.YtoogfmbojlpjaaaGreat
namespace Go.Proofs.YtoogfmbojlpjaaaGreat
open Go Go.RowKit Go.Sort
section
section
variable {P:Program} {ops:Array Oper}
def Bt:Op->Bool
 | .move _| .assign _| .pick .. | .build .. | .makeFunc .. | .load .. | .binOp .. | .unOp .. | .convert .. | .slice .. | .fieldAddr .. | .field .. | .indexAddr .. | .index .. | .extract .. | .lookup .. =>true
 | .call c=>match c.callee with| .builtin .len=>true| .builtin .cap=>true| .builtin .max=>true| .builtin .min=>true|_=>false
 |_=>false
def noEnter:Result Next->Prop
 | .ok (.enter _ _) _=>False
 |_=>True
theorem aAt (s:Sem Value) (w:World):noEnter (Sem.run P (do pure (.value (<-s)):Sem Next) w):=by
 rw[Sem.run_bind];generalize Sem.run P s w=r;cases r<;>simp[Result.andThen,noEnter]
theorem Zf (o:Oper) (ρ:Operand->Value) (w:World) (h:Bt o.op=true):noEnter ((execOp ρ o).run P w):=by
 obtain⟨dst,op,type,pos,after,guard⟩:=o;cases op<;>simp only[Bt] at h<;>first|(exact aAt _ _)|(cases h;done)|skip
 case move x=>simp[execOp,noEnter]
 case assign x=>simp[execOp,noEnter]
 case pick c a b=>
  simp only[execOp];rw[Sem.run_bind];generalize Sem.run P (asBool (ρ c)) w=r;cases r<;>simp[Result.andThen,noEnter]
 case call c=>
  obtain⟨callee,args,argTypes⟩:=c;cases callee with
  |builtin b=>
   cases b<;>simp only at h<;>first|(cases h;done)|skip
   all_goals
    simp only[execOp,resolve];rw[Sem.run_bind];simp only[Sem.run_pure,Result.andThen_ok,invoke,builtin];exact aAt _ _
  |value f=>cases h
  |invoke r n=>cases h
theorem wJ {o:Oper} {a:Act} {w:World} {C:World->Prop} {v:Value} (h:Bt o.op=true) (hq:o.quietAt P a C w v):oG P o a w v:=by
 have hn:=Zf (P:=P) o a.eval w h;unfold Oper.quietAt at hq;unfold oG;generalize(execOp a.eval o).run P w=r at*;cases r with
 |halt x w'=>exact hq.elim
 |ok n w'=>
  cases n<;>simp only[Oper.quietUpon] at hq<;>simp only[noEnter] at hn
  ·obtain⟨rfl,rfl⟩:=hq;exact .inl rfl
  ·obtain⟨rfl,rfl⟩:=hq;exact .inr ⟨rfl,rfl⟩
variable {T:List (List Nat)} {S:List Sp} {w0:World} {V:Nat->Value} {Q:Act->World->Prop} {rest:List Oper} {k:Nat} {G:List (Nat×(World->Prop))} {a:Act} {o:Oper}
theorem rQ (hk:wR S k=none) (hh:Bt o.op=true) (h:wpQuiet P ops (λw'=>∃p:Regrown,w'=grow (redrawn w0 p.d) p.os) (λa'=>fQ P ops T S w0 V Q rest (k+1) G a') [o] a):fQ P ops T S w0 V Q (o::rest) k G a:=by
 unfold wpQuiet at h;unfold fQ;by_cases hw:Region.wanted o (yielded ops a.tmps)=true
 ·rw[if_pos hw] at h⊢
  rw[hk];obtain⟨v,h1,h2⟩:=h;exact⟨v,λw hb _=>wJ hh (h1 w (regrown_of_below hb)),h2⟩
 ·rw[if_neg hw] at h⊢
  exact h
theorem z8 {K:Act->Prop} {dst:Option Tmp} {v:Value} {type:TypeId} {pos:String} {after:Array Edge} (h:wpQuiet P ops (λw'=>∃p:Regrown,w'=grow (redrawn w0 p.d) p.os) K [⟨dst,.move (.const v),type,pos,after,none⟩] a):K (a.put dst v):=by
 unfold wpQuiet at h;rw[if_pos (by rfl)] at h;obtain⟨u,h1,h2⟩:=h;have h3:=h1 w0 ⟨⟨w0.drawn,#[]⟩,by rw[grow_empty];rfl⟩;have h4:=wJ rfl h3;rcases h4 with h4|⟨h4,_⟩
 ·simp[execOp] at h4
  rw[<-h4] at h2;exact h2
 ·simp[execOp] at h4
theorem Em (v:Value) {dst:Option Tmp} {op:Op} {type:TypeId} {pos:String} {after:Array Edge} {guard:Option (Nat×Bool)} (hw:Region.wanted ⟨dst,op,type,pos,after,guard⟩ (yielded ops a.tmps)=true) (hk:wR S k=none)
 (h1:∀w,Below w0.heap.size w0 w->(∀p∈G,aW T k p.1=true->p.2 w)->(execOp a.eval ⟨dst,op,type,pos,after,guard⟩).run P w=.ok (.value v) w)
 (h:wpQuiet P ops (λw'=>∃p:Regrown,w'=grow (redrawn w0 p.d) p.os) (λa'=>fQ P ops T S w0 V Q rest (k+1) G a') [⟨dst,.move (.const v),type,pos,after,none⟩] a):fQ P ops T S w0 V Q (⟨dst,op,type,pos,after,guard⟩::rest) k G a:=by
 unfold fQ;rw[if_pos hw,hk];exact⟨v,λw hb hf=>.inl (h1 w hb hf),z8 h⟩
theorem qK (s:Sp) {dst:Option Tmp} {op:Op} {type:TypeId} {pos:String} {after:Array Edge} {guard:Option (Nat×Bool)} (hw:Region.wanted ⟨dst,op,type,pos,after,guard⟩ (yielded ops a.tmps)=true) (hk:wR S k=some s)
 (h1:∀w,Below w0.heap.size w0 w->(∀p∈G,aW T k p.1=true->p.2 w)->becomes P ⟨dst,op,type,pos,after,guard⟩ a w λv w'=>s.shape v/\s.fact v w')
 (h:wpQuiet P ops (λw'=>∃p:Regrown,w'=grow (redrawn w0 p.d) p.os) (λa'=>fQ P ops T S w0 V Q rest (k+1) ((k,s.fact (V k))::G) a') [⟨dst,.move (.const (V k)),type,pos,after,none⟩] a):fQ P ops T S w0 V Q (⟨dst,op,type,pos,after,guard⟩::rest) k G a:=by
 unfold fQ;rw[if_pos hw,hk];exact⟨h1,z8 h⟩
theorem bY {w:World} {f:FuncId} {args:Array Value} {Φ:Value->World->Prop} (h:(execOp a.eval o).run P w=.ok (.enter f args) w)
 (hc:Calls P f args w λe w''=>∃v,e=.returned v/\Below w.heap.size w w''/\Φ v w''):becomes P o a w Φ:=by
 unfold becomes;rw[h];exact hc
end
theorem Iy {P:Program} {id:Nat} {Q:Exit->Act->World->Prop} {a:Act} {w:World} {l:List Oper} (S:List Sp) (hm:P.follows .mixedOrders=true) (hB:yF l.toArray (ahead l.toArray l.length)=true)
 (h:∀V:Nat->Value,(∀k,shapeOf S k (V k))->fQ P l.toArray (ahead l.toArray l.length) S w V (Q .normal) l 0 [] a):(Code.region id l.toArray true).wp P Q a w:=aA1 S _ hm hB h
def Sp.call (k:Nat) (v:Value):Sp:=⟨k,λu=>u=v,λ_ _=>True,⟨v,rfl⟩,λ_ _ _ h _=>h⟩
end
section
section
variable {P:Program} {ops:Array Oper}
variable {T:List (List Nat)} {S:List Sp} {w0:World} {V:Nat->Value} {Q:Act->World->Prop} {rest:List Oper} {k:Nat} {G:List (Nat×(World->Prop))} {a:Act} {o:Oper}
theorem aIz (hw:Region.wanted o (yielded ops a.tmps)=false) (h:wpQuiet P ops (λw'=>∃p:Regrown,w'=grow (redrawn w0 p.d) p.os) (λa'=>fQ P ops T S w0 V Q rest (k+1) G a') [o] a):fQ P ops T S w0 V Q (o::rest) k G a:=by
 unfold wpQuiet at h;unfold fQ;rw[if_neg (by rw[hw];exact Bool.false_ne_true)] at h⊢;exact h
theorem Ml {w w':World} {v:Value} {Φ:Value->World->Prop} (h:(execOp a.eval o).run P w=.ok (.value v) w') (hb:Below w.heap.size w w') (hf:Φ v w'):becomes P o a w Φ:=by
 unfold becomes;rw[h];exact⟨hb,hf⟩
end
end
section
section
variable {P:Program} {ops:Array Oper} {M:World->World->Prop}
def gG (M:World->World->Prop) (P:Program) (o:Oper) (a:Act) (w:World) (Φ:Value->World->Prop):Prop:=
 match(execOp a.eval o).run P w with
 | .ok (.value v) w'=>M w w'/\Φ v w'
 | .ok .skip w'=>M w w'/\Φ undef w'
 | .ok (.enter f args) w'=>Calls P f args w' λe w''=>∃v,e=.returned v/\M w w''/\Φ v w''
 |_=>False
structure dK (M:World->World->Prop) where
 at_:Nat
 dep:Option Nat
 shape:Value->Prop
 fact:Value->Value->World->Prop
 inh:∃v,shape v
 keeps:∀u v w w',fact u v w->M w w'->fact u v w'
def kV (S:List (dK M)) (k:Nat):Option (dK M):=S.find? (λs=>s.at_==k)
def kW (S:List (dK M)) (k:Nat) (v:Value):Prop:=match kV S k with|some s=>s.shape v|none=>True
def mX (V:Nat->Value) (s:dK M):Value:=match s.dep with|none=>undef|some d=>V d
def Xn (ops:Array Oper) (S:List (dK M)) (T:List (List Nat)):Bool:=S.all λs=>match s.dep with|none=>true|some d=>decide (d<s.at_)&&aW T s.at_ d&&(kV S d).isSome&&(match ops[d]? with|some o=>o.guard.isNone|none=>false)
def L6 (ops:Array Oper) (S:List (dK M)) (T:List (List Nat)):Prop:=∀k s d,kV S k=some s->s.dep=some d->(d<k/\aW T k d=true)/\∃o s',ops[d]? =some o/\o.guard=none/\kV S d=some s'
theorem aC3 {S:List (dK M)} {T:List (List Nat)} (h:Xn ops S T=true):L6 ops S T:=by
 intro k s d hs hd;have hm:=List.mem_of_find?_eq_some hs;have hk:=List.find?_some hs;have:=List.all_eq_true.1 h s hm;simp only[hd,Bool.and_eq_true,decide_eq_true_eq] at this;have e:s.at_=k:=by simpa using hk
 obtain⟨⟨⟨h1,h2⟩,h3⟩,h4⟩:=this;rw[e] at h1 h2;obtain⟨s',hs'⟩:=Option.isSome_iff_exists.1 h3;refine⟨⟨h1,h2⟩,?_⟩;cases ho:ops[d]? with
 |none=>rw[ho] at h4;cases h4
 |some o=>rw[ho] at h4;exact⟨o,s',rfl,by simpa using h4,hs'⟩
structure xC (M:World->World->Prop) (w0:World):Prop where
 refl:∀w,M w w
 grown:∀w w',Below w0.heap.size w0 w->M w w'->Below w0.heap.size w0 w'
theorem Sy {S:List (dK M)} {T:List (List Nat)} (hD:L6 ops S T) {k:Nat} {s:dK M} (hs:kV S k=some s) {V V':Nat->Value} (h:∀i,i<k->V i=V' i):mX V s=mX V' s:=by
 unfold mX;cases hd:s.dep with
 |none=>rfl
 |some d=>exact h d (hD k s d hs hd).1.1
theorem aHF {S:List (dK M)} {T:List (List Nat)} (hD:L6 ops S T) {k:Nat} {s:dK M} (hs:kV S k=some s) {V V':Nat->Value} (h:∀i,aW T k i=true->V i=V' i):mX V s=mX V' s:=by
 unfold mX;cases hd:s.dep with
 |none=>rfl
 |some d=>exact h d (hD k s d hs hd).1.2
def gB (P:Program) (ops:Array Oper) (T:List (List Nat)) (S:List (dK M)) (w0:World) (V:Nat->Value) (Q:Act->World->Prop):List Oper->Nat->List (Nat×(World->Prop))->Act->Prop
 | [],_,G,a=>∀w,Below w0.heap.size w0 w->(∀p∈G,p.2 w)->Q a w
 |o::rest,k,G,a=>
  if Region.wanted o (yielded ops a.tmps) then
   match kV S k with
   |some s=>(∀w,Below w0.heap.size w0 w->(∀p∈G,aW T k p.1=true->p.2 w)->gG M P o a w λv w'=>s.shape v/\s.fact (mX V s) v w')/\
     gB P ops T S w0 V Q rest (k+1) ((k,s.fact (mX V s) (V k))::G) (a.put o.dst (V k))
   |none=>∃v,(∀w,Below w0.heap.size w0 w->(∀p∈G,aW T k p.1=true->p.2 w)->oG P o a w v)/\gB P ops T S w0 V Q rest (k+1) G (a.put o.dst v)
  else gB P ops T S w0 V Q rest (k+1) G (a.put o.dst undef)
def pO (ops:Array Oper) (S:List (dK M)) (a0:Act) (vals:Nat->Value) (j:Nat) (w:World):Prop:=
 ∀s o,kV S j=some s->ops[j]? =some o->dQ ops a0 vals j o=true->s.fact (mX vals s) (vals j) w
def zW (P:Program) (ops:Array Oper) (T:List (List Nat)) (S:List (dK M)) (w0:World) (V:Nat->Value) (a0:Act) (vals:Nat->Value) (k:Nat) (o:Oper):Prop:=
    (dQ ops a0 vals k o=false->vals k=undef)/\
    (dQ ops a0 vals k o=true->match kV S k with
      |some s=>vals k=V k/\∀w,Below w0.heap.size w0 w->(∀j,aW T k j=true->j<k->pO ops S a0 vals j w)->gG M P o (bJ ops a0 vals k) w λv w'=>s.shape v/\s.fact (mX vals s) v w'
      |none=>∀w,Below w0.heap.size w0 w->(∀j,aW T k j=true->j<k->pO ops S a0 vals j w)->oG P o (bJ ops a0 vals k) w (vals k))
structure Ip (P:Program) (ops:Array Oper) (T:List (List Nat)) (S:List (dK M)) (w0:World) (V:Nat->Value) (Q:Act->World->Prop) (a0:Act) (vals:Nat->Value):Prop where
 step:∀k o,ops[k]? =some o->zW P ops T S w0 V a0 vals k o
 last:∀w,Below w0.heap.size w0 w->(∀j,j<ops.size->pO ops S a0 vals j w)->Q (bJ ops a0 vals ops.size) w
theorem Cr {T:List (List Nat)} {S:List (dK M)} (hD:L6 ops S T) {a0:Act} {vals aR:Nat->Value} {j:Nat} {w:World} (h:∀i,i<=j->vals i=aR i) (hf:pO ops S a0 vals j w):pO ops S a0 aR j w:=by
 intro s o hs ho hw;rw[<-h j (nR _)];rw[<-Sy hD hs (λi hi=>h i (by omega))];refine hf s o hs ho ?_;unfold dQ at*;rw[jC j (λi hi=>h i (by omega))];exact hw
theorem aA3 {T:List (List Nat)} {S:List (dK M)} (hD:L6 ops S T) {w0:World} {V:Nat->Value} {a0:Act} {vals aR:Nat->Value} {k:Nat} {o:Oper} (h:∀i,i<=k->vals i=aR i)
 (hs:zW P ops T S w0 V a0 vals k o):zW P ops T S w0 V a0 aR k o:=by
 have hl:bJ ops a0 vals k=bJ ops a0 aR k:=jC k (λi hi=>h i (by omega));have hw:dQ ops a0 vals k o=dQ ops a0 aR k o:=by unfold dQ;rw[hl]
 unfold zW at*;rw[<-hl,<-hw,<-h k (nR _)];refine⟨hs.1,λhw=> ?_⟩;have h2:=hs.2 hw;cases hsp:kV S k with
 |some s=>
  rw[hsp] at h2;simp only at h2⊢;rw[Sy hD hsp (λi hi=>h i (by omega))] at h2;exact⟨h2.1,λw hb hf=>h2.2 w hb (λj hj hjk=>Cr hD (λi hi=>(h i (by omega)).symm) (hf j hj hjk))⟩
 |none=>
  rw[hsp] at h2;exact λw hb hf=>h2 w hb (λj hj hjk=>Cr hD (λi hi=>(h i (by omega)).symm) (hf j hj hjk))
def aDp (ops:Array Oper) (S:List (dK M)) (a0:Act) (vals:Nat->Value) (k:Nat) (G:List (Nat×(World->Prop))):Prop:=
 ∀p∈G,p.1<k/\∀w,pO ops S a0 vals p.1 w->p.2 w
theorem Sj {T:List (List Nat)} {S:List (dK M)} (hD:L6 ops S T) {w0:World} {V:Nat->Value} {Q:Act->World->Prop} {a0:Act} :
 ∀(l:List Oper) (k:Nat) (G:List (Nat×(World->Prop))) (vals:Nat->Value),(∀j,l[j]? =ops[k+j]?)->k+l.length=ops.size->aDp ops S a0 vals k G->
 (∀j o,j<k->ops[j]? =some o->zW P ops T S w0 V a0 vals j o)->gB P ops T S w0 V Q l k G (bJ ops a0 vals k)->∃aR,Ip P ops T S w0 V Q a0 aR
 | [],k,G,vals,hl,hk,hG,hs,h=>by
   have hkn:k=ops.size:=by simpa using hk
   refine⟨vals,λj o ho=>hs j o ?_ ho,λw hb hf=> ?_⟩
   ·have:=(Array.getElem?_eq_some_iff.1 ho).1;omega
   ·rw[<-hkn]
    exact h w hb λp hp=>(hG p hp).2 w (hf _ (by have:=(hG p hp).1;omega))
 |o::rest,k,G,vals,hl,hk,hG,hs,h=>by
  have h0:ops[k]? =some o:=by simpa using(hl 0).symm
  have hd:o.dst=dA ops k:=by simp[dA,h0]
  have hrest:∀j,rest[j]? =ops[k+1+j]? :=λj=>by have:=hl (j+1);simpa[Nat.add_assoc,Nat.add_comm 1 j] using this
  have hlen:k+1+rest.length=ops.size:=by simp at hk;omega
  have hwant:∀v,dQ ops a0 (λj=>if j=k then v else vals j) k o=Region.wanted o (yielded ops (bJ ops a0 vals k).tmps):=λv=>by
   unfold dQ;rw[jC k (aR:=vals) (λj hj=>by simp;omega)]
  have uU:∀v,bJ ops a0 (λj=>if j=k then v else vals j) k=bJ ops a0 vals k:=λv=>jC k (λj hj=>by simp;omega);have hold:∀v j o',j<k->ops[j]? =some o'->zW P ops T S w0 V a0 (λj=>if j=k then v else vals j) j o':=λv j o' hj ho'=>
   aA3 hD (λi hi=>by simp;omega) (hs j o' hj ho')
  have hfact:∀v j w,j<k->pO ops S a0 (λj=>if j=k then v else vals j) j w->pO ops S a0 vals j w:=λv j w hj hf=>
   Cr hD (λi hi=>by simp;omega) hf
  have hnext:∀v,bJ ops a0 (λj=>if j=k then v else vals j) (k+1)=(bJ ops a0 vals k).put o.dst v:=λv=>by
   simp only[bJ];rw[uU,hd];simp
  have Pt:∀v,aDp ops S a0 (λj=>if j=k then v else vals j) (k+1) G:=λv p hp=>by
   obtain⟨h1,h2⟩:=hG p hp;exact⟨by omega,λw hf=>h2 w (hfact v _ _ h1 hf)⟩
  have go:∀v G',aDp ops S a0 (λj=>if j=k then v else vals j) (k+1) G'->zW P ops T S w0 V a0 (λj=>if j=k then v else vals j) k o->
   gB P ops T S w0 V Q rest (k+1) G' ((bJ ops a0 vals k).put o.dst v)->∃aR,Ip P ops T S w0 V Q a0 aR:=λv G' hG' hk' hr=>by
   refine Sj hD rest (k+1) G' _ hrest hlen hG' (λj o' hj ho'=> ?_) (by rw[hnext];exact hr);rcases Nat.lt_succ_iff_lt_or_eq.1 hj with hj|rfl
   ·exact hold v j o' hj ho'
   ·rw[h0] at ho';cases ho';exact hk'
  unfold gB at h;by_cases hw:Region.wanted o (yielded ops (bJ ops a0 vals k).tmps)=true
  ·rw[if_pos hw] at h
   cases hsp:kV S k with
   |some s=>
    rw[hsp] at h;obtain⟨h1,h2⟩:=h;have aCA:mX (λj=>if j=k then V k else vals j) s=mX V s:=by
     unfold mX;cases hdd:s.dep with
     |none=>rfl
     |some d=>
      obtain⟨⟨hlt,_⟩,od,s',hod,hg,hs'⟩:=hD k s d hsp hdd;have h5:=(hs d od hlt hod).2 (by unfold dQ Region.wanted;rw[hg]);rw[hs'] at h5;show(if d=k then V k else vals d)=V d;rw[if_neg (by omega)];exact h5.1
    refine go (V k) _ (λp hp=> ?_) ?_ h2
    ·rcases List.mem_cons.1 hp with rfl|hp
     ·refine⟨Nat.lt_succ_self _,λw hf=> ?_⟩
      have:=hf s o hsp h0 (by rw[hwant];exact hw);rw[aCA] at this;simpa using this
     ·exact Pt _ p hp
    ·refine⟨λhw'=>(by rw[hwant,hw] at hw';cases hw'),λ_=> ?_⟩
     rw[hsp];refine⟨by simp,λw hb hf=> ?_⟩;rw[uU];simp only[aCA];exact h1 w hb λp hp oI=>(hG p hp).2 w (hfact _ _ _ (hG p hp).1 (hf _ oI (hG p hp).1))
   |none=>
    rw[hsp] at h;obtain⟨v,h1,h2⟩:=h;refine go v G (Pt v) ?_ h2;refine⟨λhw'=>(by rw[hwant,hw] at hw';cases hw'),λ_=> ?_⟩;rw[hsp];intro w hb hf;rw[uU];simp only[if_true];exact h1 w hb λp hp oI=>(hG p hp).2 w (hfact _ _ _ (hG p hp).1 (hf _ oI (hG p hp).1))
  ·rw[if_neg hw] at h
   refine go undef G (Pt _) ⟨λ_=>by simp,λhw'=> ?_⟩ h;rw[hwant] at hw';exact absurd hw' hw
structure vG (P:Program) (ops:Array Oper) (T:List (List Nat)) (S:List (dK M)) (w0:World) (Q:Act->World->Prop) (a0:Act) (L:Nat->Prop) (act:Nat->Value) (a:Act) (w:World):Prop where
 grown:Below w0.heap.size w0 w
 closed:∀j,L j->∀i,aW T j i=true->L i
 defers:a.defers=a0.defers
 tY:a.tmps.size=a0.tmps.size
 off:∀t,(∀j,L j->dA ops j≠some t)->a.tmps[t]? =a0.tmps[t]?
 on:∀j,L j->∀d,dA ops j=some d->d<a0.tmps.size->a.tmps[d]? =some (act j)
 cert:∀j,L j->∀V vals,Ip P ops T S w0 V Q a0 vals->(∀i,aW T j i=true->vals i=act i)->(kW S j (act j)->V j=act j)->vals j=act j
 yR:∀j,L j->∀V vals,Ip P ops T S w0 V Q a0 vals->(∀i,aW T j i=true->vals i=act i)->vals j=act j->pO ops S a0 vals j w
section
variable {T:List (List Nat)} {S:List (dK M)} {w0:World} {Q:Act->World->Prop} {a0:Act}
theorem vG.look {L:Nat->Prop} {act:Nat->Value} {a:Act} {w:World} (ok:pF ops T) (I:vG P ops T S w0 Q a0 L act a w) {k:Nat} {o:Oper} (ho:ops[k]? =some o)
 (hL:∀j,aW T k j=true->L j) {vals:Nat->Value} (hv:∀j,aW T k j=true->vals j=act j):∀t∈o.looksAt ops,a.tmps[t]? =(bJ ops a0 vals k).tmps[t]? :=by
 intro t ht;by_cases hj:∃j,dA ops j=some t
 ·obtain⟨j,hj⟩:=hj
  have oI:=ok.look k o ho j t hj ht;have hjk:=(ok.Jo k o ho j oI).1;by_cases hs:t<a0.tmps.size
  ·rw[I.on j (hL j oI) t hj hs,Ae a0 vals t hs j hj k hjk ?_,hv j oI]
   intro i h1 h2 hi;have hio:i<ops.size:=by have:=(Array.getElem?_eq_some_iff.1 ho).1;omega
   exact ok.dst i ops[i] (Array.getElem?_eq_getElem hio) j t h1 hj (by simpa[dA,Array.getElem?_eq_getElem hio] using hi)
  ·have hs':a0.tmps.size<=t:=Nat.le_of_not_lt hs
   rw[Array.getElem?_eq_none (by rw[I.tY];exact hs'),Array.getElem?_eq_none (by rw[rT];exact hs')]
 ·rw[I.off t (λj _ h=>hj ⟨j,h⟩),wX a0 vals t k (λj _ h=>hj ⟨j,h⟩)]
theorem vG.vals {L:Nat->Prop} {act:Nat->Value} {a:Act} {w:World} (ok:pF ops T) (I:vG P ops T S w0 Q a0 L act a w) (hLn:∀j,L j->j<ops.size) {V vals:Nat->Value} (hx:Ip P ops T S w0 V Q a0 vals)
 (hV:∀j,L j->kW S j (act j)->V j=act j):∀n j,j<n->L j->vals j=act j
 |0,_,h,_=>by omega
 |n+1,j,h,hj=>by
  have hjo:=Array.getElem?_eq_getElem (hLn j hj);exact I.cert j hj V vals hx (λi hi=>vG.vals ok I hLn hx hV n i (by have:=(ok.Jo j _ hjo i hi).1;omega) (I.closed j hj i hi)) (hV j hj)
theorem vG.facts {L:Nat->Prop} {act:Nat->Value} {a:Act} {w:World} (ok:pF ops T) (I:vG P ops T S w0 Q a0 L act a w) {k:Nat} {o:Oper} (ho:ops[k]? =some o) (hL:∀j,aW T k j=true->L j) {V vals:Nat->Value}
 (hx:Ip P ops T S w0 V Q a0 vals) (hv:∀j,aW T k j=true->vals j=act j):∀j,aW T k j=true->j<k->pO ops S a0 vals j w:=
 λj hj _=>I.yR j (hL j hj) V vals hx (λi hi=>hv i ((ok.Jo k o ho j hj).2.2 i hi)) (hv j hj)
theorem vG.more {L:Nat->Prop} {act:Nat->Value} {a:Act} {w w':World} (ok:pF ops T) (I:vG P ops T S w0 Q a0 L act a w) {k:Nat} {o:Oper} (ho:ops[k]? =some o) (hL:∀j,aW T k j=true->L j) (hk:¬L k) (hLn:∀j,L j->j<ops.size)
 (hM:xC M w0) (hb:M w w') (v:Value)
 (hc:∀V vals,Ip P ops T S w0 V Q a0 vals->(∀i,aW T k i=true->vals i=act i)->(kW S k v->V k=v)->vals k=v)
 (hf:∀V vals,Ip P ops T S w0 V Q a0 vals->(∀i,aW T k i=true->vals i=act i)->vals k=v->pO ops S a0 vals k w'):
 vG P ops T S w0 Q a0 (λj=>L j\/j=k) (λj=>if j=k then v else act j) (a.put o.dst v) w':=by
 have hd:dA ops k=o.dst:=by simp[dA,ho]
 have hne:∀j,L j->j≠k:=λj hj e=>hk (e▸hj);have aCz:∀j,L j->∀d,dA ops j=some d->dA ops k≠some d:=λj hj d hjd hkd=>by
  obtain⟨oj,hjo⟩:∃oj,ops[j]? =some oj:=⟨_,Array.getElem?_eq_getElem (hLn j hj)⟩;have aCv:oj.dst=some d:=by simpa[dA,hjo] using hjd
  rcases Nat.lt_or_gt_of_ne (hne j hj) with h|h
  ·exact ok.dst k o ho j d h hjd (by rw[<-hd];exact hkd)
  ·exact ok.dst j _ hjo k d h hkd aCv
 have hback:∀j,L j->∀vals:Nat->Value,(∀i,aW T j i=true->vals i=if i=k then v else act i)->∀i,aW T j i=true->vals i=act i:=λj hj vals h i hi=>by
  rw[h i hi,if_neg (hne i (I.closed j hj i hi))]
 have hkk:∀vals:Nat->Value,(∀i,aW T k i=true->vals i=if i=k then v else act i)->∀i,aW T k i=true->vals i=act i:=λvals h i hi=>by
  rw[h i hi,if_neg (hne i (hL i hi))]
 refine⟨hM.grown _ _ I.grown hb,?_,by rw[put_defers];exact I.defers,by rw[Kh];exact I.tY,?_,?_,?_,?_⟩
 ·rintro j (hj|rfl) i hi
  ·exact .inl (I.closed j hj i hi)
  ·exact .inl (hL i hi)
 ·intro t ht
  rw[Bo _ _ _ _ (by rw[<-hd];exact ht k (.inr rfl))];exact I.off t λj hj=>ht j (.inl hj)
 ·rintro j (hj|rfl) d hjd hs
  ·rw[Bo _ _ _ _ (by rw[<-hd];exact aCz j hj d hjd),I.on j hj d hjd hs,if_neg (hne j hj)]
  ·rw[if_pos rfl]
   rw[hd] at hjd;rw[hjd];exact put_eq _ _ _ (by rw[I.tY];exact hs)
 ·rintro j (hj|rfl) V vals hx hv hV
  ·rw[if_neg (hne j hj)] at hV⊢
   exact I.cert j hj V vals hx (hback j hj vals hv) hV
  ·rw[if_pos rfl] at hV⊢
   exact hc V vals hx (hkk vals hv) hV
 ·rintro j (hj|rfl) V vals hx hv Gt
  ·rw[if_neg (hne j hj)] at Gt
   intro s o' hs ho' hw;exact s.keeps _ _ _ _ (I.yR j hj V vals hx (hback j hj vals hv) Gt s o' hs ho' hw) hb
  ·rw[if_pos rfl] at Gt
   exact hf V vals hx (hkk vals hv) Gt
theorem aDQ {Qe:Exit->Act->World->Prop} (ok:pF ops T) (hD:L6 ops S T) (hM:xC M w0) (hin:∀V:Nat->Value,(∀k,kW S k (V k))->∃vals,Ip P ops T S w0 V (Qe .normal) a0 vals):
 ∀(fuel:Nat) (listed:Array Bool) (act:Nat->Value) (a:Act) (w:World),listed.size=ops.size->(List.range ops.size).countP (λi=> !listed.getD i false)<=fuel->
 vG P ops T S w0 (Qe .normal) a0 (λj=>listed.getD j false=true) act a w->wpAny P .any ops Qe fuel listed a w:=by
 have pick:∀k,∃v,kW S k v:=λk=>by
  unfold kW;cases kV S k with
  |some s=>exact s.inh
  |none=>exact⟨undef,trivial⟩
 have fit:∀(listed:Array Bool) (act:Nat->Value),∃V vals,Ip P ops T S w0 V (Qe .normal) a0 vals/\∀j,listed.getD j false=true->kW S j (act j)->V j=act j:=λlisted act=>by
  have hV:∀k,∃v,kW S k v/\(listed.getD k false=true->kW S k (act k)->v=act k):=λk=>by
   by_cases h:listed.getD k false=true/\kW S k (act k)
   ·exact⟨_,h.2,λ_ _=>rfl⟩
   ·obtain⟨v,hv⟩:=pick k
    exact⟨v,hv,λh1 h2=>absurd ⟨h1,h2⟩ h⟩
  refine⟨λk=>Classical.choose (hV k),?_⟩;obtain⟨vals,hx⟩:=hin (λk=>Classical.choose (hV k)) (λk=>(Classical.choose_spec (hV k)).1);exact⟨vals,hx,λj=>(Classical.choose_spec (hV j)).2⟩
 have hlt:∀(listed:Array Bool),listed.size=ops.size->∀j,listed.getD j false=true->j<ops.size:=λlisted hs j hj=>by
  rcases Nat.lt_or_ge j listed.size with h|h
  ·omega
  ·simp[Array.getD_eq_getD_getElem?,Array.getElem?_eq_none h] at hj
 have done:∀(listed:Array Bool) (act:Nat->Value) (a:Act) (w:World),listed.size=ops.size->vG P ops T S w0 (Qe .normal) a0 (λj=>listed.getD j false=true) act a w->(∀j,j<ops.size->listed.getD j false=true)->Qe .normal a w:=by
  intro listed act a w hs I hall;obtain⟨V,vals,hx,hV⟩:=fit listed act;have hv:∀j,j<ops.size->vals j=act j:=λj hj=>vG.vals ok I (hlt listed hs) hx hV ops.size j hj (hall j hj);have hf:∀j,j<ops.size->pO ops S a0 vals j w:=λj hj=>
   I.yR j (hall j hj) V vals hx (λi hi=>hv i (hlt listed hs i (I.closed j (hall j hj) i hi))) (hv j hj)
  have:=hx.last w I.grown hf;have ha:bJ ops a0 vals ops.size=a:=by
   have h1:(bJ ops a0 vals ops.size).defers=a.defers:=by rw[Bd,I.defers]
   have h2:(bJ ops a0 vals ops.size).tmps=a.tmps:=by
    apply Array.ext_getElem?;intro t;by_cases hj:∃j,dA ops j=some t
    ·obtain⟨j,hj⟩:=hj
     have hjn:j<ops.size:=by
      rcases Nat.lt_or_ge j ops.size with h|h
      ·exact h
      ·unfold dA at hj;rw[Array.getElem?_eq_none h] at hj;simp at hj
     by_cases hts:t<a0.tmps.size
     ·rw[I.on j (hall j hjn) t hj hts,Ae a0 vals t hts j hj ops.size hjn ?_,hv j hjn]
      intro i h1 h2 hi;exact ok.dst i ops[i] (Array.getElem?_eq_getElem h2) j t h1 hj (by simpa[dA,Array.getElem?_eq_getElem h2] using hi)
     ·have Pm:a0.tmps.size<=t:=Nat.le_of_not_lt hts
      rw[Array.getElem?_eq_none (by rw[rT];exact Pm),Array.getElem?_eq_none (by rw[I.tY];exact Pm)]
    ·rw[I.off t (λj _ h=>hj ⟨j,h⟩),wX a0 vals t _ (λj _ h=>hj ⟨j,h⟩)]
   cases h:bJ ops a0 vals ops.size;cases a;rw[h] at h1 h2;simp only at h1 h2;rw[h1,h2]
  rw[ha] at this;exact this
 have stp:∀(listed:Array Bool) (act:Nat->Value) (a:Act) (w:World),listed.size=ops.size->vG P ops T S w0 (Qe .normal) a0 (λj=>listed.getD j false=true) act a w->∀i∈Region.ready .any ops listed,∀K:Act->World->Prop,
  (∀act' a' w',vG P ops T S w0 (Qe .normal) a0 (λj=>(listed.setIfInBounds i true).getD j false=true) act' a' w'->K a' w')->wpOp P ops Qe i K a w:=by
  intro listed act a w hs I i hi K hK;obtain⟨hnl,o,ho,Gy⟩:=mem_ready.1 hi;have hin':i<ops.size:=(Array.getElem?_eq_some_iff.1 ho).1;have Gx:¬(listed.getD i false=true):=by
   intro h;have:listed.getD i true=listed.getD i false:=by
    simp only[Array.getD_eq_getD_getElem?];rw[Array.getElem?_eq_getElem (by omega)];rfl
   rw[this,h] at hnl;cases hnl
  have hL:∀j,aW T i j=true->listed.getD j false=true:=λj hj=>by
   obtain⟨_,⟨e,he,hb,h⟩,_⟩:=ok.Jo i o ho j hj;rcases h with rfl|h
   ·exact Gy e he hb
   ·exact I.closed e.on (Gy e he hb) j h
  obtain⟨V,vals,hx,hV⟩:=fit listed act;have hv:∀j,aW T i j=true->vals j=act j:=λj hj=>vG.vals ok I (hlt listed hs) hx hV ops.size j (hlt listed hs j (hL j hj)) (hL j hj);have hsel:=λcs b=>ok.sel i o cs b ho;have agree:∀aR:Nat->Value,(∀j,aW T i j=true->aR j=act j)->execOp a.eval o=execOp (bJ ops a0 aR i).eval o/\Region.wanted o (yielded ops a.tmps)=dQ ops a0 aR i o:=λaR hv'=>
   Yx hsel (I.look ok ho hL hv')
  have hset:∀act' a' w',vG P ops T S w0 (Qe .normal) a0 (λj=>listed.getD j false=true\/j=i) act' a' w'->K a' w':=λact' a' w' I'=>by
   refine hK act' a' w' ?_;have:(λj=>(listed.setIfInBounds i true).getD j false=true)=(λj=>listed.getD j false=true\/j=i):=funext λj=>propext (nT (by omega));rw[this];exact I'
  obtain⟨s1,s2⟩:=hx.step i o ho;obtain⟨he,xN⟩:=agree vals hv;have Bu:=I.facts ok ho hL hx hv;cases hw:dQ ops a0 vals i o with
  |false=>
   refine Nn ho (by rw[xN,hw]) ?_;refine hset _ _ _ (I.more ok ho hL Gx (hlt listed hs) hM (hM.refl _) undef ?_ ?_)
   ·intro V' aR hx' hv' _
    exact(hx'.step i o ho).1 (by rw[<-(agree aR hv').2,xN,hw])
   ·intro V' aR hx' hv' _ s o' _ ho' hw'
    rw[ho] at ho';cases ho';rw[<-(agree aR hv').2,xN,hw] at hw';cases hw'
  |true=>
   refine Nl ho (by rw[xN,hw]) ?_;have s3:=s2 hw;cases hsp:kV S i with
   |some s=>
    rw[hsp] at s3;obtain⟨hvi,aCB⟩:=s3;have hb:=aCB w I.grown Bu;have fin:∀v w',M w w'->s.shape v/\s.fact (mX vals s) v w'->K (a.put o.dst v) w':=λv w' hbw hsf=>by
     refine hset _ _ _ (I.more ok ho hL Gx (hlt listed hs) hM hbw v ?_ ?_)
     ·intro V' aR hx' hv' hVs
      have h5:=(hx'.step i o ho).2 (by rw[<-(agree aR hv').2,xN,hw]);rw[hsp] at h5;rw[h5.1];exact hVs (by unfold kW;rw[hsp];exact hsf.1)
     ·intro V' aR hx' hv' hvk s' o' hs' _ _
      rw[hsp] at hs';cases hs';rw[hvk,aHF hD hsp (V':=vals) (λi hi=>(hv' i hi).trans (hv i hi).symm)];exact hsf.2
    unfold gG at hb;unfold Oper.wp;rw[he];generalize(execOp (bJ ops a0 vals i).eval o).run P w=r at*;cases r with
    |halt x w'=>exact hb.elim
    |ok n w'=>
     cases n<;>first|exact fin _ _ hb.1 hb.2|(simp only at hb;done)|skip
     all_goals first
      |(refine Calls.mono hb ?_
        rintro e w'' ⟨v,rfl,h1,h2⟩;exact fin _ _ h1 h2)
      |exact hb.elim
   |none=>
    rw[hsp] at s3;have uD:=s3 w I.grown Bu;have fin:K (a.put o.dst (vals i)) w:=by
     refine hset _ _ _ (I.more ok ho hL Gx (hlt listed hs) hM (hM.refl _) (vals i) ?_ ?_)
     ·intro V' aR hx' hv' _
      have h5:=(hx'.step i o ho).2 (by rw[<-(agree aR hv').2,xN,hw]);rw[hsp] at h5;have h6:=h5 w I.grown (I.facts ok ho hL hx' hv');have h7:=(agree aR hv').1;rw[he] at h7;unfold oG at uD h6;rw[<-h7] at h6;rcases uD with h|⟨h,h'⟩<;>rcases h6 with g|⟨g,g'⟩
      ·rw[h] at g;injection g with g _;injection g with g;exact g.symm
      ·rw[h] at g;cases g
      ·rw[h] at g;cases g
      ·rw[h',g']
     ·intro V' aR hx' hv' _ s' o' hs' _ _
      rw[hsp] at hs';cases hs'
    unfold Oper.wp;rw[he];unfold oG at uD;rcases uD with h|⟨h,h'⟩
    ·rw[h];exact fin
    ·rw[h];rw[h'] at fin;exact fin
 intro fuel
 induction fuel with
 |zero=>
  intro listed act a w hs hc I;have hall:∀j,j<ops.size->listed.getD j false=true:=λj hj=>by
   have h0:(List.range ops.size).countP (λi=> !listed.getD i false)=0:=by omega
   have:=List.countP_eq_zero.1 h0 j (List.mem_range.2 hj);simpa using this
  refine⟨?_,done listed act a w hs I hall⟩;cases hr:Region.ready .any ops listed with
  |nil=>rfl
  |cons x l=>
   have hx:x∈Region.ready .any ops listed:=by rw[hr];exact List.mem_cons_self
   obtain⟨h1,o,ho,_⟩:=mem_ready.1 hx;have hxn:x<ops.size:=(Array.getElem?_eq_some_iff.1 ho).1;have h2:=hall x hxn;simp only[Array.getD_eq_getD_getElem?] at h1 h2;rw[Array.getElem?_eq_getElem (by omega)] at h1 h2;simp only[Option.getD_some] at h1 h2;rw[h1] at h2;cases h2
 |succ fuel ih=>
  intro listed act a w hs hc I;refine⟨λhr=>done listed act a w hs I (λj hj=>zB ok hs hr ops.size j hj hj),λi hi=> ?_⟩;obtain⟨hnl,o,ho,_⟩:=mem_ready.1 hi;have hin':i<ops.size:=(Array.getElem?_eq_some_iff.1 ho).1;refine stp listed act a w hs I i hi _ λact' a' w' I'=>ih _ act' a' w' (by simpa using hs) ?_ I';have hfi:listed.getD i false=false:=by
   simp only[Array.getD_eq_getD_getElem?] at*;rw[Array.getElem?_eq_getElem (by omega)] at*;simpa using hnl
  have:=Ha (p:=λj=> !listed.getD j false) (q:=λj=> !(listed.setIfInBounds i true).getD j false) (i:=i) (λx hx=>by
   cases h:listed.getD x false with
   |false=>rfl
   |true=>
    have h9:=(nT (listed:=listed) (i:=i) (j:=x) (by omega)).2 (.inl h);simp[h9] at hx) (by simp[hfi]) (by
    have h9:=(nT (listed:=listed) (i:=i) (j:=i) (by omega)).2 (.inr rfl);simp[h9]) (List.range ops.size) (List.mem_range.2 hin')
  omega
end
theorem Yp {id:Nat} {Q:Exit->Act->World->Prop} {a:Act} {w:World} {l:List Oper} (S:List (dK M)) (T:List (List Nat)) (hm:P.follows .mixedOrders=true) (hM:xC M w) (hd:Xn l.toArray S T=true) (hB:yF l.toArray T=true)
 (h:∀V:Nat->Value,(∀k,kW S k (V k))->gB P l.toArray T S w V (Q .normal) l 0 [] a):(Code.region id l.toArray true).wp P Q a w:=by
 have ok:=En hB;refine wp_region_any hm (aDQ (S:=S) (w0:=w) (a0:=a) ok (aC3 hd) hM (λV hV=> ?_) _ _ (λ_=>undef) _ _ (by simp) (by have:=List.countP_le_length (p:=λi=> !(Array.replicate l.toArray.size false).getD i false) (l:=List.range l.toArray.size);simpa using this) ?_)
 ·exact Sj (aC3 hd) l 0 [] (λ_=>undef) (by simp) (by simp) (λp hp=>by cases hp) (λj o hj=>by omega) (h V hV)
 ·have hno:∀j,¬((Array.replicate l.toArray.size false).getD j false=true):=λj hj=>by
   simp only[Array.getD_eq_getD_getElem?,Array.getElem?_replicate] at hj;split at hj<;>simp at hj
  exact⟨⟨rfl,rfl,rfl,nR _,λ_ _=>rfl⟩,λj hj=>absurd hj (hno j),rfl,rfl,λ_ _=>rfl,λj hj=>absurd hj (hno j),λj hj=>absurd hj (hno j),λj hj=>absurd hj (hno j)⟩
end
end
end Go.Proofs.YtoogfmbojlpjaaaGreat
