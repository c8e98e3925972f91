/- Lemmas. -/
import Derived.Test.YtoogfmbojlpjaaaGreatQ10
import Derived.Test.YtoogfmbojlpjaaaGreatQ36
import Derived.Test.YtoogfmbojlpjaaaGreatQ27
import Derived.Test.YtoogfmbojlpjaaaGreatQ19
import Derived.Test.YtoogfmbojlpjaaaGreatQA
set_option maxRecDepth 100000
set_option maxHeartbeats 32000000
set_option linter.unusedVariables false
set_option linter.unusedSimpArgs false
namespace Go.Proofs.YtoogfmbojlpjaaaGreat
open Go Go.RowKit Go.Sort
section
structure Wr (p:Prop):Prop where
 out:p
section
variable {P:Program} {ops:Array Oper}
variable {T:List (List Nat)} {S:List Sp} {w0:World} {V:Nat->Value} {Q:Act->World->Prop} {rest:List Oper} {k:Nat} {G:List (Nat×(World->Prop))} {a:Act} {o:Oper}
theorem jK {C:World->Prop} {K:Act->Prop} :∀ {l:List Oper} {a:Act},wpQuiet P ops C (λa=>Wr (K a)) l a->wpQuiet P ops C K l a
 | [],_,h=>h.out
 |o::l,a,h=>by
  unfold wpQuiet at h⊢;split at h
  ·rename_i hw
   rw[if_pos hw];obtain⟨v,h1,h2⟩:=h;exact⟨v,h1,jK h2⟩
  ·rename_i hw
   rw[if_neg hw];exact jK h
theorem rq (hk:wR S k=none) (hh:Bt o.op=true) (h:wpQuiet P ops (λw'=>∃p:Regrown,w'=grow (redrawn w0 p.d) p.os) (λa'=>Wr (fQ P ops T S w0 V Q rest (k+1) G a')) [o] a):Wr (fQ P ops T S w0 V Q (o::rest) k G a):=Wr.mk (rQ hk hh (jK h))
theorem rk (hw:Region.wanted o (yielded ops a.tmps)=false) (h:wpQuiet P ops (λw'=>∃p:Regrown,w'=grow (redrawn w0 p.d) p.os) (λa'=>Wr (fQ P ops T S w0 V Q rest (k+1) G a')) [o] a):Wr (fQ P ops T S w0 V Q (o::rest) k G a):=Wr.mk (aIz hw (jK h))
theorem rf (v:Value) {dst:Option Tmp} {op:Op} {type:TypeId} {pos:String} {after:Array Edge} {guard:Option (Nat×Bool)} (hw:Region.wanted ⟨dst,op,type,pos,after,guard⟩ (yielded ops a.tmps)=true) (hk:wR S k=none)
 (h1:∀w,Below w0.heap.size w0 w->(∀p∈G,aW T k p.1=true->p.2 w)->(execOp a.eval ⟨dst,op,type,pos,after,guard⟩).run P w=.ok (.value v) w)
 (h:wpQuiet P ops (λw'=>∃p:Regrown,w'=grow (redrawn w0 p.d) p.os) (λa'=>Wr (fQ P ops T S w0 V Q rest (k+1) G a')) [⟨dst,.move (.const v),type,pos,after,none⟩] a):Wr (fQ P ops T S w0 V Q (⟨dst,op,type,pos,after,guard⟩::rest) k G a):=Wr.mk (Em v hw hk h1 (jK h))
theorem rn {x:Operand} (A:Addr) {dst:Option Tmp} {type:TypeId} {pos:String} {after:Array Edge} {guard:Option (Nat×Bool)} (hw:Region.wanted ⟨dst,.nilCheck x,type,pos,after,guard⟩ (yielded ops a.tmps)=true) (hk:wR S k=none) (hx:a.eval x=.pointer (some A))
 (h:wpQuiet P ops (λw'=>∃p:Regrown,w'=grow (redrawn w0 p.d) p.os) (λa'=>Wr (fQ P ops T S w0 V Q rest (k+1) G a')) [⟨dst,.move (.const (.pointer (some A))),type,pos,after,none⟩] a):Wr (fQ P ops T S w0 V Q (⟨dst,.nilCheck x,type,pos,after,guard⟩::rest) k G a):=
 rf (.pointer (some A)) hw hk (λw hb hf=>by simp[execOp,hx]) h
theorem mQ (s:Sp) {dst:Option Tmp} {op:Op} {type:TypeId} {pos:String} {after:Array Edge} {guard:Option (Nat×Bool)} (hw:Region.wanted ⟨dst,op,type,pos,after,guard⟩ (yielded ops a.tmps)=true) (hk:wR S k=some s)
 (h1:∀w,Below w0.heap.size w0 w->(∀p∈G,aW T k p.1=true->p.2 w)->becomes P ⟨dst,op,type,pos,after,guard⟩ a w λv w'=>s.shape v/\s.fact v w')
 (h:wpQuiet P ops (λw'=>∃p:Regrown,w'=grow (redrawn w0 p.d) p.os) (λa'=>Wr (fQ P ops T S w0 V Q rest (k+1) ((k,s.fact (V k))::G) a')) [⟨dst,.move (.const (V k)),type,pos,after,none⟩] a):Wr (fQ P ops T S w0 V Q (⟨dst,op,type,pos,after,guard⟩::rest) k G a):=Wr.mk (qK s hw hk h1 (jK h))
theorem rend (h:∀w,Below w0.heap.size w0 w->(∀p∈G,p.2 w)->Q a w):Wr (fQ P ops T S w0 V Q [] k G a):=Wr.mk h
theorem fK {id:Nat} {Q:Exit->Act->World->Prop} {a:Act} {w:World} {l:List Oper} (S:List Sp) (hm:P.follows .mixedOrders=true) (hB:yF l.toArray (ahead l.toArray l.length)=true)
 (h:∀V:Nat->Value,(∀k,shapeOf S k (V k))->Wr (fQ P l.toArray (ahead l.toArray l.length) S w V (Q .normal) l 0 [] a)):(Code.region id l.toArray true).wp P Q a w:=Iy S hm hB λV hV=>(h V hV).out
theorem kD {id:Nat} {Q:Exit->Act->World->Prop} {a:Act} {w:World} {l:List Oper} (n:Nat) (S:List Sp) (hm:P.follows .mixedOrders=true) (hB:yF (l.take n).toArray (ahead (l.take n).toArray (l.take n).length)=true) (hT:Bh l n=true)
 (h:∀V:Nat->Value,(∀k,shapeOf S k (V k))->Wr (fQ P (l.take n).toArray (ahead (l.take n).toArray (l.take n).length) S w V (λa w=>wpList P l.toArray Q (l.drop n) a w) (l.take n) 0 [] a)):(Code.region id l.toArray true).wp P Q a w:=mI n S hm hB hT λV hV=>(h V hV).out
end
section
variable {P:Program} {ops:Array Oper} {M:World->World->Prop}
variable {T:List (List Nat)} {S:List (dK M)} {w0:World} {V:Nat->Value} {Q:Act->World->Prop} {rest:List Oper} {k:Nat} {G:List (Nat×(World->Prop))} {a:Act} {o:Oper}
theorem mq (hk:kV S k=none) (hh:Bt o.op=true) (h:wpQuiet P ops (λw'=>∃p:Regrown,w'=grow (redrawn w0 p.d) p.os) (λa'=>Wr (gB P ops T S w0 V Q rest (k+1) G a')) [o] a):Wr (gB P ops T S w0 V Q (o::rest) k G a):=Wr.mk (aE6 hk hh (jK h))
theorem mf (v:Value) {dst:Option Tmp} {op:Op} {type:TypeId} {pos:String} {after:Array Edge} {guard:Option (Nat×Bool)} (hw:Region.wanted ⟨dst,op,type,pos,after,guard⟩ (yielded ops a.tmps)=true) (hk:kV S k=none)
 (h1:∀w,Below w0.heap.size w0 w->(∀p∈G,aW T k p.1=true->p.2 w)->(execOp a.eval ⟨dst,op,type,pos,after,guard⟩).run P w=.ok (.value v) w)
 (h:wpQuiet P ops (λw'=>∃p:Regrown,w'=grow (redrawn w0 p.d) p.os) (λa'=>Wr (gB P ops T S w0 V Q rest (k+1) G a')) [⟨dst,.move (.const v),type,pos,after,none⟩] a):Wr (gB P ops T S w0 V Q (⟨dst,op,type,pos,after,guard⟩::rest) k G a):=Wr.mk (aGX v hw hk h1 (jK h))
theorem mn {x:Operand} (A:Addr) {dst:Option Tmp} {type:TypeId} {pos:String} {after:Array Edge} {guard:Option (Nat×Bool)} (hw:Region.wanted ⟨dst,.nilCheck x,type,pos,after,guard⟩ (yielded ops a.tmps)=true) (hk:kV S k=none) (hx:a.eval x=.pointer (some A))
 (h:wpQuiet P ops (λw'=>∃p:Regrown,w'=grow (redrawn w0 p.d) p.os) (λa'=>Wr (gB P ops T S w0 V Q rest (k+1) G a')) [⟨dst,.move (.const (.pointer (some A))),type,pos,after,none⟩] a):Wr (gB P ops T S w0 V Q (⟨dst,.nilCheck x,type,pos,after,guard⟩::rest) k G a):=
 mf (.pointer (some A)) hw hk (λw hb hf=>by simp[execOp,hx]) h
theorem Cv (s:dK M) {dst:Option Tmp} {op:Op} {type:TypeId} {pos:String} {after:Array Edge} {guard:Option (Nat×Bool)} (hw:Region.wanted ⟨dst,op,type,pos,after,guard⟩ (yielded ops a.tmps)=true) (hk:kV S k=some s)
 (h1:∀w,Below w0.heap.size w0 w->(∀p∈G,aW T k p.1=true->p.2 w)->gG M P ⟨dst,op,type,pos,after,guard⟩ a w λv w'=>s.shape v/\s.fact (mX V s) v w')
 (h:wpQuiet P ops (λw'=>∃p:Regrown,w'=grow (redrawn w0 p.d) p.os) (λa'=>Wr (gB P ops T S w0 V Q rest (k+1) ((k,s.fact (mX V s) (V k))::G) a')) [⟨dst,.move (.const (V k)),type,pos,after,none⟩] a):Wr (gB P ops T S w0 V Q (⟨dst,op,type,pos,after,guard⟩::rest) k G a):=Wr.mk (aBZ s hw hk h1 (jK h))
theorem mend (h:∀w,Below w0.heap.size w0 w->(∀p∈G,p.2 w)->Q a w):Wr (gB P ops T S w0 V Q [] k G a):=Wr.mk h
theorem Iw {id:Nat} {Q:Exit->Act->World->Prop} {a:Act} {w:World} {l:List Oper} (M:World->World->Prop) (S:List (dK M)) (hm:P.follows .mixedOrders=true) (hM:xC M w) (hB:yF l.toArray (ahead l.toArray l.length)=true) (hd:Xn l.toArray S (ahead l.toArray l.length)=true)
 (h:∀V:Nat->Value,(∀k,kW S k (V k))->Wr (gB P l.toArray (ahead l.toArray l.length) S w V (Q .normal) l 0 [] a)):(Code.region id l.toArray true).wp P Q a w:=Vr M S hm hM hB hd λV hV=>(h V hV).out
end
end
section
section
variable {P:Program} {ops:Array Oper} {M:World->World->Prop}
def uL (P:Program) (ops:Array Oper) (T:List (List Nat)) (S:List (dK M)) (C:World->Prop) (V:Nat->Value) (Q:Act->World->Prop):List Oper->Nat->List (Nat×(World->Prop))->Act->Prop
 | [],_,G,a=>∀w,C w->(∀p∈G,p.2 w)->Q a w
 |o::rest,k,G,a=>
  if Region.wanted o (yielded ops a.tmps) then
   match kV S k with
   |some s=>(∀w,C w->(∀p∈G,aW T k p.1=true->p.2 w)->gG M P o a w λv w'=>s.shape v/\s.fact (mX V s) v w')/\
     uL P ops T S C V Q rest (k+1) ((k,s.fact (mX V s) (V k))::G) (a.put o.dst (V k))
   |none=>∃v,(∀w,C w->(∀p∈G,aW T k p.1=true->p.2 w)->oG P o a w v)/\uL P ops T S C V Q rest (k+1) G (a.put o.dst v)
  else uL P ops T S C V Q rest (k+1) G (a.put o.dst undef)
end
section
variable {P:Program} {ops:Array Oper} {M:World->World->Prop}
variable {T:List (List Nat)} {S:List (dK M)} {C:World->Prop} {V:Nat->Value} {Q:Act->World->Prop} {rest:List Oper} {k:Nat} {G:List (Nat×(World->Prop))} {a:Act} {o:Oper}
theorem ck (wt:World) (hw:Region.wanted o (yielded ops a.tmps)=false) (h:wpQuiet P ops (λw'=>∃p:Regrown,w'=grow (redrawn wt p.d) p.os) (λa'=>Wr (uL P ops T S C V Q rest (k+1) G a')) [o] a):Wr (uL P ops T S C V Q (o::rest) k G a):=by
 refine Wr.mk ?_;replace h:=jK h;unfold wpQuiet at h;unfold uL;rw[if_neg (by rw[hw];exact Bool.false_ne_true)] at h⊢;exact h
theorem cf (wt:World) (v:Value) {dst:Option Tmp} {op:Op} {type:TypeId} {pos:String} {after:Array Edge} {guard:Option (Nat×Bool)} (hw:Region.wanted ⟨dst,op,type,pos,after,guard⟩ (yielded ops a.tmps)=true) (hk:kV S k=none)
 (h1:∀w,C w->(∀p∈G,aW T k p.1=true->p.2 w)->(execOp a.eval ⟨dst,op,type,pos,after,guard⟩).run P w=.ok (.value v) w)
 (h:wpQuiet P ops (λw'=>∃p:Regrown,w'=grow (redrawn wt p.d) p.os) (λa'=>Wr (uL P ops T S C V Q rest (k+1) G a')) [⟨dst,.move (.const v),type,pos,after,none⟩] a):Wr (uL P ops T S C V Q (⟨dst,op,type,pos,after,guard⟩::rest) k G a):=by
 refine Wr.mk ?_;unfold uL;rw[if_pos hw,hk];exact⟨v,λw hb hf=>.inl (h1 w hb hf),z8 (jK h)⟩
theorem cn (wt:World) {x:Operand} (A:Addr) {dst:Option Tmp} {type:TypeId} {pos:String} {after:Array Edge} {guard:Option (Nat×Bool)} (hw:Region.wanted ⟨dst,.nilCheck x,type,pos,after,guard⟩ (yielded ops a.tmps)=true) (hk:kV S k=none) (hx:a.eval x=.pointer (some A))
 (h:wpQuiet P ops (λw'=>∃p:Regrown,w'=grow (redrawn wt p.d) p.os) (λa'=>Wr (uL P ops T S C V Q rest (k+1) G a')) [⟨dst,.move (.const (.pointer (some A))),type,pos,after,none⟩] a):Wr (uL P ops T S C V Q (⟨dst,.nilCheck x,type,pos,after,guard⟩::rest) k G a):=
 cf wt (.pointer (some A)) hw hk (λw hb hf=>by simp[execOp,hx]) h
end
end
section
section
variable {P:Program} {ops:Array Oper} {M:Nat->World->World->Prop}
structure fG (M:Nat->World->World->Prop) where
 at_:Nat
 dep:Option Nat
 exp:List Nat
 shape:Value->Prop
 fact:Value->Value->World->Prop
 inh:∃v,shape v
 keeps:∀i,i∉exp->i≠at_->∀u v w w',fact u v w->M i w w'->fact u v w'
def usable (T:List (List Nat)) (exp:List Nat) (k:Nat):Bool:=exp.all λi=>i==k||aW T i k
structure vF (M:Nat->World->World->Prop) (C:World->Prop) (I0:List (List Nat×(World->Prop))):Prop where
 refl:∀i w,M i w w
 grown:∀i w w',C w->M i w w'->C w'
 ini:∀p∈I0,∀i,i∉p.1->∀w w',p.2 w->M i w w'->p.2 w'
def jV (S:List (fG M)) (k:Nat):Option (fG M):=S.find? (λs=>s.at_==k)
def j3 (S:List (fG M)) (k:Nat) (v:Value):Prop:=match jV S k with|some s=>s.shape v|none=>True
def nM (V:Nat->Value) (s:fG M):Value:=match s.dep with|none=>undef|some d=>V d
def Ji (ops:Array Oper) (S:List (fG M)) (T:List (List Nat)):Bool:=S.all λs=>match s.dep with|none=>true|some d=>decide (d<s.at_)&&aW T s.at_ d&&(jV S d).isSome&&(match ops[d]? with|some o=>o.guard.isNone|none=>false)
def Gc (ops:Array Oper) (S:List (fG M)) (T:List (List Nat)):Prop:=∀k s d,jV S k=some s->s.dep=some d->(d<k/\aW T k d=true)/\∃o s',ops[d]? =some o/\o.guard=none/\jV S d=some s'
theorem G9 {S:List (fG M)} {T:List (List Nat)} (h:Ji ops S T=true):Gc ops S T:=by
 intro k s d hs hd;have hm:=List.mem_of_find?_eq_some hs;have hk:=List.find?_some hs;have:=List.all_eq_true.1 h s hm;simp only[hd,Bool.and_eq_true,decide_eq_true_eq] at this;have e:s.at_=k:=by simpa using hk
 obtain⟨⟨⟨h1,h2⟩,h3⟩,h4⟩:=this;rw[e] at h1 h2;obtain⟨s',hs'⟩:=Option.isSome_iff_exists.1 h3;refine⟨⟨h1,h2⟩,?_⟩;cases ho:ops[d]? with
 |none=>rw[ho] at h4;cases h4
 |some o=>rw[ho] at h4;exact⟨o,s',rfl,by simpa using h4,hs'⟩
theorem Qa {S:List (fG M)} {T:List (List Nat)} (hD:Gc ops S T) {k:Nat} {s:fG M} (hs:jV S k=some s) {V V':Nat->Value} (h:∀i,i<k->V i=V' i):nM V s=nM V' s:=by
 unfold nM;cases hd:s.dep with
 |none=>rfl
 |some d=>exact h d (hD k s d hs hd).1.1
theorem aFP {S:List (fG M)} {T:List (List Nat)} (hD:Gc ops S T) {k:Nat} {s:fG M} (hs:jV S k=some s) {V V':Nat->Value} (h:∀i,aW T k i=true->V i=V' i):nM V s=nM V' s:=by
 unfold nM;cases hd:s.dep with
 |none=>rfl
 |some d=>exact h d (hD k s d hs hd).1.2
def pQ (ops:Array Oper) (S:List (fG M)) (a0:Act) (vals:Nat->Value) (j:Nat) (w:World):Prop:=
 ∀s o,jV S j=some s->ops[j]? =some o->dQ ops a0 vals j o=true->s.fact (nM vals s) (vals j) w
theorem Cs {T:List (List Nat)} {S:List (fG M)} (hD:Gc ops S T) {a0:Act} {vals aR:Nat->Value} {j:Nat} {w:World} (h:∀i,i<=j->vals i=aR i) (hf:pQ ops S a0 vals j w):pQ ops S a0 aR j w:=by
 intro s o hs ho hw;rw[<-h j (nR _)];rw[<-Qa hD hs (λi hi=>h i (by omega))];refine hf s o hs ho ?_;unfold dQ at*;rw[jC j (λi hi=>h i (by omega))];exact hw
def jF (P:Program) (ops:Array Oper) (T:List (List Nat)) (S:List (fG M)) (C:World->Prop) (I0:List (List Nat×(World->Prop))) (V:Nat->Value) (Q:Act->World->Prop):List Oper->Nat->List (Nat×List Nat×(World->Prop))->Act->Prop
 | [],_,G,a=>∀w,C w->(∀p∈I0,p.1=[]->p.2 w)->(∀p∈G,p.2.1=[]->p.2.2 w)->Q a w
 |o::rest,k,G,a=>
  if Region.wanted o (yielded ops a.tmps) then
   match jV S k with
   |some s=>(∀w,C w->(∀p∈I0,usable T p.1 k=true->p.2 w)->(∀p∈G,aW T k p.1=true->usable T p.2.1 k=true->p.2.2 w)->gG (M k) P o a w λv w'=>s.shape v/\s.fact (nM V s) v w')/\
     jF P ops T S C I0 V Q rest (k+1) ((k,s.exp,s.fact (nM V s) (V k))::G) (a.put o.dst (V k))
   |none=>∃v,(∀w,C w->(∀p∈I0,usable T p.1 k=true->p.2 w)->(∀p∈G,aW T k p.1=true->usable T p.2.1 k=true->p.2.2 w)->oG P o a w v)/\jF P ops T S C I0 V Q rest (k+1) G (a.put o.dst v)
  else jF P ops T S C I0 V Q rest (k+1) G (a.put o.dst undef)
def zX (P:Program) (ops:Array Oper) (T:List (List Nat)) (S:List (fG M)) (C:World->Prop) (I0:List (List Nat×(World->Prop))) (V:Nat->Value) (a0:Act) (vals:Nat->Value) (k:Nat) (o:Oper):Prop:=
    (dQ ops a0 vals k o=false->vals k=undef)/\
    (dQ ops a0 vals k o=true->match jV S k with
      |some s=>vals k=V k/\∀w,C w->(∀p∈I0,usable T p.1 k=true->p.2 w)->(∀j,aW T k j=true->j<k->(∀s,jV S j=some s->usable T s.exp k=true)->pQ ops S a0 vals j w)->gG (M k) P o (bJ ops a0 vals k) w λv w'=>s.shape v/\s.fact (nM vals s) v w'
      |none=>∀w,C w->(∀p∈I0,usable T p.1 k=true->p.2 w)->(∀j,aW T k j=true->j<k->(∀s,jV S j=some s->usable T s.exp k=true)->pQ ops S a0 vals j w)->oG P o (bJ ops a0 vals k) w (vals k))
structure Iq (P:Program) (ops:Array Oper) (T:List (List Nat)) (S:List (fG M)) (C:World->Prop) (I0:List (List Nat×(World->Prop))) (V:Nat->Value) (Q:Act->World->Prop) (a0:Act) (vals:Nat->Value):Prop where
 step:∀k o,ops[k]? =some o->zX P ops T S C I0 V a0 vals k o
 last:∀w,C w->(∀p∈I0,p.1=[]->p.2 w)->(∀j,j<ops.size->(∀s,jV S j=some s->s.exp=[])->pQ ops S a0 vals j w)->Q (bJ ops a0 vals ops.size) w
theorem aA4 {T:List (List Nat)} {S:List (fG M)} (hD:Gc ops S T) {C:World->Prop} {I0:List (List Nat×(World->Prop))} {V:Nat->Value} {a0:Act} {vals aR:Nat->Value} {k:Nat} {o:Oper} (h:∀i,i<=k->vals i=aR i)
 (hs:zX P ops T S C I0 V a0 vals k o):zX P ops T S C I0 V a0 aR k o:=by
 have hl:bJ ops a0 vals k=bJ ops a0 aR k:=jC k (λi hi=>h i (by omega));have hw:dQ ops a0 vals k o=dQ ops a0 aR k o:=by unfold dQ;rw[hl]
 unfold zX at*;rw[<-hl,<-hw,<-h k (nR _)];refine⟨hs.1,λhw=> ?_⟩;have h2:=hs.2 hw;cases hsp:jV S k with
 |some s=>
  rw[hsp] at h2;simp only at h2⊢;rw[Qa hD hsp (λi hi=>h i (by omega))] at h2;exact⟨h2.1,λw hb hi hf=>h2.2 w hb hi (λj hj hjk hu=>Cs hD (λi hi=>(h i (by omega)).symm) (hf j hj hjk hu))⟩
 |none=>
  rw[hsp] at h2;exact λw hb hi hf=>h2 w hb hi (λj hj hjk hu=>Cs hD (λi hi=>(h i (by omega)).symm) (hf j hj hjk hu))
def aDq (ops:Array Oper) (S:List (fG M)) (a0:Act) (vals:Nat->Value) (k:Nat) (G:List (Nat×List Nat×(World->Prop))):Prop:=
 ∀p∈G,p.1<k/\(∃s,jV S p.1=some s/\s.exp=p.2.1)/\∀w,pQ ops S a0 vals p.1 w->p.2.2 w
theorem Ic {T:List (List Nat)} {S:List (fG M)} (hD:Gc ops S T) {C:World->Prop} {I0:List (List Nat×(World->Prop))} {V:Nat->Value} {Q:Act->World->Prop} {a0:Act} :
 ∀(l:List Oper) (k:Nat) (G:List (Nat×List Nat×(World->Prop))) (vals:Nat->Value),(∀j,l[j]? =ops[k+j]?)->k+l.length=ops.size->aDq ops S a0 vals k G->
 (∀j o,j<k->ops[j]? =some o->zX P ops T S C I0 V a0 vals j o)->jF P ops T S C I0 V Q l k G (bJ ops a0 vals k)->∃aR,Iq P ops T S C I0 V Q a0 aR
 | [],k,G,vals,hl,hk,hG,hs,h=>by
   have hkn:k=ops.size:=by simpa using hk
   refine⟨vals,λj o ho=>hs j o ?_ ho,λw hb hi hf=> ?_⟩
   ·have:=(Array.getElem?_eq_some_iff.1 ho).1;omega
   ·rw[<-hkn]
    exact h w hb hi λp hp he=>(hG p hp).2.2 w (hf _ (by have:=(hG p hp).1;omega) (λs hs=>by obtain⟨s',h1,h2⟩:=(hG p hp).2.1;rw[h1] at hs;cases hs;rw[h2];exact he))
 |o::rest,k,G,vals,hl,hk,hG,hs,h=>by
  have h0:ops[k]? =some o:=by simpa using(hl 0).symm
  have hd:o.dst=dA ops k:=by simp[dA,h0]
  have hrest:∀j,rest[j]? =ops[k+1+j]? :=λj=>by have:=hl (j+1);simpa[Nat.add_assoc,Nat.add_comm 1 j] using this
  have hlen:k+1+rest.length=ops.size:=by simp at hk;omega
  have hwant:∀v,dQ ops a0 (λj=>if j=k then v else vals j) k o=Region.wanted o (yielded ops (bJ ops a0 vals k).tmps):=λv=>by
   unfold dQ;rw[jC k (aR:=vals) (λj hj=>by simp;omega)]
  have uU:∀v,bJ ops a0 (λj=>if j=k then v else vals j) k=bJ ops a0 vals k:=λv=>jC k (λj hj=>by simp;omega);have hold:∀v j o',j<k->ops[j]? =some o'->zX P ops T S C I0 V a0 (λj=>if j=k then v else vals j) j o':=λv j o' hj ho'=>
   aA4 hD (λi hi=>by simp;omega) (hs j o' hj ho')
  have hfact:∀v j w,j<k->pQ ops S a0 (λj=>if j=k then v else vals j) j w->pQ ops S a0 vals j w:=λv j w hj hf=>
   Cs hD (λi hi=>by simp;omega) hf
  have hnext:∀v,bJ ops a0 (λj=>if j=k then v else vals j) (k+1)=(bJ ops a0 vals k).put o.dst v:=λv=>by
   simp only[bJ];rw[uU,hd];simp
  have Pt:∀v,aDq ops S a0 (λj=>if j=k then v else vals j) (k+1) G:=λv p hp=>by
   obtain⟨h1,h3,h2⟩:=hG p hp;exact⟨by omega,h3,λw hf=>h2 w (hfact v _ _ h1 hf)⟩
  have go:∀v G',aDq ops S a0 (λj=>if j=k then v else vals j) (k+1) G'->zX P ops T S C I0 V a0 (λj=>if j=k then v else vals j) k o->
   jF P ops T S C I0 V Q rest (k+1) G' ((bJ ops a0 vals k).put o.dst v)->∃aR,Iq P ops T S C I0 V Q a0 aR:=λv G' hG' hk' hr=>by
   refine Ic hD rest (k+1) G' _ hrest hlen hG' (λj o' hj ho'=> ?_) (by rw[hnext];exact hr);rcases Nat.lt_succ_iff_lt_or_eq.1 hj with hj|rfl
   ·exact hold v j o' hj ho'
   ·rw[h0] at ho';cases ho';exact hk'
  unfold jF at h;by_cases hw:Region.wanted o (yielded ops (bJ ops a0 vals k).tmps)=true
  ·rw[if_pos hw] at h
   cases hsp:jV S k with
   |some s=>
    rw[hsp] at h;obtain⟨h1,h2⟩:=h;have aCA:nM (λj=>if j=k then V k else vals j) s=nM V s:=by
     unfold nM;cases hdd:s.dep with
     |none=>rfl
     |some d=>
      obtain⟨⟨hlt,_⟩,od,s',hod,hg,hs'⟩:=hD k s d hsp hdd;have h5:=(hs d od hlt hod).2 (by unfold dQ Region.wanted;rw[hg]);rw[hs'] at h5;show(if d=k then V k else vals d)=V d;rw[if_neg (by omega)];exact h5.1
    refine go (V k) _ (λp hp=> ?_) ?_ h2
    ·rcases List.mem_cons.1 hp with rfl|hp
     ·refine⟨Nat.lt_succ_self _,⟨s,hsp,rfl⟩,λw hf=> ?_⟩
      have:=hf s o hsp h0 (by rw[hwant];exact hw);rw[aCA] at this;simpa using this
     ·exact Pt _ p hp
    ·refine⟨λhw'=>(by rw[hwant,hw] at hw';cases hw'),λ_=> ?_⟩
     rw[hsp];refine⟨by simp,λw hb hi hf=> ?_⟩;rw[uU];simp only[aCA];exact h1 w hb hi λp hp oI hu=>(hG p hp).2.2 w (hfact _ _ _ (hG p hp).1 (hf _ oI (hG p hp).1 (λs' hs'=>by obtain⟨s2,e1,e2⟩:=(hG p hp).2.1;rw[e1] at hs';cases hs';rw[e2];exact hu)))
   |none=>
    rw[hsp] at h;obtain⟨v,h1,h2⟩:=h;refine go v G (Pt v) ?_ h2;refine⟨λhw'=>(by rw[hwant,hw] at hw';cases hw'),λ_=> ?_⟩;rw[hsp];intro w hb hi hf;rw[uU];simp only[if_true];exact h1 w hb hi λp hp oI hu=>(hG p hp).2.2 w (hfact _ _ _ (hG p hp).1 (hf _ oI (hG p hp).1 (λs' hs'=>by obtain⟨s2,e1,e2⟩:=(hG p hp).2.1;rw[e1] at hs';cases hs';rw[e2];exact hu)))
  ·rw[if_neg hw] at h
   refine go undef G (Pt _) ⟨λ_=>by simp,λhw'=> ?_⟩ h;rw[hwant] at hw';exact absurd hw' hw
structure qP (P:Program) (ops:Array Oper) (T:List (List Nat)) (S:List (fG M)) (C:World->Prop) (I0:List (List Nat×(World->Prop))) (Q:Act->World->Prop) (a0:Act) (L:Nat->Prop) (act:Nat->Value) (a:Act) (w:World):Prop where
 grown:C w
 closed:∀j,L j->∀i,aW T j i=true->L i
 defers:a.defers=a0.defers
 tY:a.tmps.size=a0.tmps.size
 off:∀t,(∀j,L j->dA ops j≠some t)->a.tmps[t]? =a0.tmps[t]?
 on:∀j,L j->∀d,dA ops j=some d->d<a0.tmps.size->a.tmps[d]? =some (act j)
 cert:∀j,L j->∀V vals,Iq P ops T S C I0 V Q a0 vals->(∀i,aW T j i=true->vals i=act i)->(j3 S j (act j)->V j=act j)->vals j=act j
 aFq:∀p∈I0,(∀i∈p.1,¬L i)->p.2 w
 yR:∀j,L j->(∀s,jV S j=some s->∀i∈s.exp,¬L i)->∀V vals,Iq P ops T S C I0 V Q a0 vals->(∀i,aW T j i=true->vals i=act i)->vals j=act j->pQ ops S a0 vals j w
section
variable {T:List (List Nat)} {S:List (fG M)} {C:World->Prop} {I0:List (List Nat×(World->Prop))} {Q:Act->World->Prop} {a0:Act}
theorem qP.look {L:Nat->Prop} {act:Nat->Value} {a:Act} {w:World} (ok:pF ops T) (I:qP P ops T S C I0 Q a0 L act a w) {k:Nat} {o:Oper} (ho:ops[k]? =some o)
 (hL:∀j,aW T k j=true->L j) {vals:Nat->Value} (hv:∀j,aW T k j=true->vals j=act j):∀t∈o.looksAt ops,a.tmps[t]? =(bJ ops a0 vals k).tmps[t]? :=by
 intro t ht;by_cases hj:∃j,dA ops j=some t
 ·obtain⟨j,hj⟩:=hj
  have oI:=ok.look k o ho j t hj ht;have hjk:=(ok.Jo k o ho j oI).1;by_cases hs:t<a0.tmps.size
  ·rw[I.on j (hL j oI) t hj hs,Ae a0 vals t hs j hj k hjk ?_,hv j oI]
   intro i h1 h2 hi;have hio:i<ops.size:=by have:=(Array.getElem?_eq_some_iff.1 ho).1;omega
   exact ok.dst i ops[i] (Array.getElem?_eq_getElem hio) j t h1 hj (by simpa[dA,Array.getElem?_eq_getElem hio] using hi)
  ·have hs':a0.tmps.size<=t:=Nat.le_of_not_lt hs
   rw[Array.getElem?_eq_none (by rw[I.tY];exact hs'),Array.getElem?_eq_none (by rw[rT];exact hs')]
 ·rw[I.off t (λj _ h=>hj ⟨j,h⟩),wX a0 vals t k (λj _ h=>hj ⟨j,h⟩)]
theorem qP.vals {L:Nat->Prop} {act:Nat->Value} {a:Act} {w:World} (ok:pF ops T) (I:qP P ops T S C I0 Q a0 L act a w) (hLn:∀j,L j->j<ops.size) {V vals:Nat->Value} (hx:Iq P ops T S C I0 V Q a0 vals)
 (hV:∀j,L j->j3 S j (act j)->V j=act j):∀n j,j<n->L j->vals j=act j
 |0,_,h,_=>by omega
 |n+1,j,h,hj=>by
  have hjo:=Array.getElem?_eq_getElem (hLn j hj);exact I.cert j hj V vals hx (λi hi=>qP.vals ok I hLn hx hV n i (by have:=(ok.Jo j _ hjo i hi).1;omega) (I.closed j hj i hi)) (hV j hj)
theorem aNC {k:Nat} {s:fG M} (h:jV S k=some s):s.at_=k:=by
 have:=List.find?_some h;simpa using this
theorem qP.free {L:Nat->Prop} {act:Nat->Value} {a:Act} {w:World} (I:qP P ops T S C I0 Q a0 L act a w) {k:Nat} (hk:¬L k) {exp:List Nat} (hu:usable T exp k=true):∀i∈exp,¬L i:=by
 intro i hi hLi;have:=List.all_eq_true.1 hu i hi;simp only[Bool.or_eq_true,beq_iff_eq] at this;rcases this with rfl|h
 ·exact hk hLi
 ·exact hk (I.closed i hLi k h)
theorem qP.aOt {L:Nat->Prop} {act:Nat->Value} {a:Act} {w:World} (I:qP P ops T S C I0 Q a0 L act a w) {k:Nat} (hk:¬L k):∀p∈I0,usable T p.1 k=true->p.2 w:=
 λp hp hu=>I.aFq p hp (I.free hk hu)
theorem qP.facts {L:Nat->Prop} {act:Nat->Value} {a:Act} {w:World} (ok:pF ops T) (I:qP P ops T S C I0 Q a0 L act a w) {k:Nat} {o:Oper} (ho:ops[k]? =some o) (hL:∀j,aW T k j=true->L j) (hk:¬L k) {V vals:Nat->Value}
 (hx:Iq P ops T S C I0 V Q a0 vals) (hv:∀j,aW T k j=true->vals j=act j):∀j,aW T k j=true->j<k->(∀s,jV S j=some s->usable T s.exp k=true)->pQ ops S a0 vals j w:=
 λj hj _ hu=>I.yR j (hL j hj) (λs hs=>I.free hk (hu s hs)) V vals hx (λi hi=>hv i ((ok.Jo k o ho j hj).2.2 i hi)) (hv j hj)
theorem qP.more {L:Nat->Prop} {act:Nat->Value} {a:Act} {w w':World} (ok:pF ops T) (I:qP P ops T S C I0 Q a0 L act a w) {k:Nat} {o:Oper} (ho:ops[k]? =some o) (hL:∀j,aW T k j=true->L j) (hk:¬L k) (hLn:∀j,L j->j<ops.size)
 (hM:vF M C I0) (hb:M k w w') (v:Value)
 (hc:∀V vals,Iq P ops T S C I0 V Q a0 vals->(∀i,aW T k i=true->vals i=act i)->(j3 S k v->V k=v)->vals k=v)
 (hf:∀V vals,Iq P ops T S C I0 V Q a0 vals->(∀i,aW T k i=true->vals i=act i)->vals k=v->pQ ops S a0 vals k w'):
 qP P ops T S C I0 Q a0 (λj=>L j\/j=k) (λj=>if j=k then v else act j) (a.put o.dst v) w':=by
 have hd:dA ops k=o.dst:=by simp[dA,ho]
 have hne:∀j,L j->j≠k:=λj hj e=>hk (e▸hj);have aCz:∀j,L j->∀d,dA ops j=some d->dA ops k≠some d:=λj hj d hjd hkd=>by
  obtain⟨oj,hjo⟩:∃oj,ops[j]? =some oj:=⟨_,Array.getElem?_eq_getElem (hLn j hj)⟩;have aCv:oj.dst=some d:=by simpa[dA,hjo] using hjd
  rcases Nat.lt_or_gt_of_ne (hne j hj) with h|h
  ·exact ok.dst k o ho j d h hjd (by rw[<-hd];exact hkd)
  ·exact ok.dst j _ hjo k d h hkd aCv
 have hback:∀j,L j->∀vals:Nat->Value,(∀i,aW T j i=true->vals i=if i=k then v else act i)->∀i,aW T j i=true->vals i=act i:=λj hj vals h i hi=>by
  rw[h i hi,if_neg (hne i (I.closed j hj i hi))]
 have hkk:∀vals:Nat->Value,(∀i,aW T k i=true->vals i=if i=k then v else act i)->∀i,aW T k i=true->vals i=act i:=λvals h i hi=>by
  rw[h i hi,if_neg (hne i (hL i hi))]
 refine⟨hM.grown _ _ _ I.grown hb,?_,by rw[put_defers];exact I.defers,by rw[Kh];exact I.tY,?_,?_,?_,λp hp hn=>hM.ini p hp k (λh=>hn k h (.inr rfl)) w w' (I.aFq p hp (λi hi h=>hn i hi (.inl h))) hb,?_⟩
 ·rintro j (hj|rfl) i hi
  ·exact .inl (I.closed j hj i hi)
  ·exact .inl (hL i hi)
 ·intro t ht
  rw[Bo _ _ _ _ (by rw[<-hd];exact ht k (.inr rfl))];exact I.off t λj hj=>ht j (.inl hj)
 ·rintro j (hj|rfl) d hjd hs
  ·rw[Bo _ _ _ _ (by rw[<-hd];exact aCz j hj d hjd),I.on j hj d hjd hs,if_neg (hne j hj)]
  ·rw[if_pos rfl]
   rw[hd] at hjd;rw[hjd];exact put_eq _ _ _ (by rw[I.tY];exact hs)
 ·rintro j (hj|rfl) V vals hx hv hV
  ·rw[if_neg (hne j hj)] at hV⊢
   exact I.cert j hj V vals hx (hback j hj vals hv) hV
  ·rw[if_pos rfl] at hV⊢
   exact hc V vals hx (hkk vals hv) hV
 ·rintro j (hj|rfl) hn V vals hx hv Gt
  ·rw[if_neg (hne j hj)] at Gt
   intro s o' hs ho' hw;exact s.keeps k (λh=>hn s hs k h (.inr rfl)) (λe=>hne j hj (e.trans (aNC hs)).symm) _ _ _ _ (I.yR j hj (λs' hs' i hi h=>hn s' hs' i hi (.inl h)) V vals hx (hback j hj vals hv) Gt s o' hs ho' hw) hb
  ·rw[if_pos rfl] at Gt
   exact hf V vals hx (hkk vals hv) Gt
theorem Ta {Qe:Exit->Act->World->Prop} (ok:pF ops T) (hD:Gc ops S T) (hM:vF M C I0) (hin:∀V:Nat->Value,(∀k,j3 S k (V k))->∃vals,Iq P ops T S C I0 V (Qe .normal) a0 vals):
 ∀(fuel:Nat) (listed:Array Bool) (act:Nat->Value) (a:Act) (w:World),listed.size=ops.size->(List.range ops.size).countP (λi=> !listed.getD i false)<=fuel->
 qP P ops T S C I0 (Qe .normal) a0 (λj=>listed.getD j false=true) act a w->wpAny P .any ops Qe fuel listed a w:=by
 have pick:∀k,∃v,j3 S k v:=λk=>by
  unfold j3;cases jV S k with
  |some s=>exact s.inh
  |none=>exact⟨undef,trivial⟩
 have fit:∀(listed:Array Bool) (act:Nat->Value),∃V vals,Iq P ops T S C I0 V (Qe .normal) a0 vals/\∀j,listed.getD j false=true->j3 S j (act j)->V j=act j:=λlisted act=>by
  have hV:∀k,∃v,j3 S k v/\(listed.getD k false=true->j3 S k (act k)->v=act k):=λk=>by
   by_cases h:listed.getD k false=true/\j3 S k (act k)
   ·exact⟨_,h.2,λ_ _=>rfl⟩
   ·obtain⟨v,hv⟩:=pick k
    exact⟨v,hv,λh1 h2=>absurd ⟨h1,h2⟩ h⟩
  refine⟨λk=>Classical.choose (hV k),?_⟩;obtain⟨vals,hx⟩:=hin (λk=>Classical.choose (hV k)) (λk=>(Classical.choose_spec (hV k)).1);exact⟨vals,hx,λj=>(Classical.choose_spec (hV j)).2⟩
 have hlt:∀(listed:Array Bool),listed.size=ops.size->∀j,listed.getD j false=true->j<ops.size:=λlisted hs j hj=>by
  rcases Nat.lt_or_ge j listed.size with h|h
  ·omega
  ·simp[Array.getD_eq_getD_getElem?,Array.getElem?_eq_none h] at hj
 have done:∀(listed:Array Bool) (act:Nat->Value) (a:Act) (w:World),listed.size=ops.size->qP P ops T S C I0 (Qe .normal) a0 (λj=>listed.getD j false=true) act a w->(∀j,j<ops.size->listed.getD j false=true)->Qe .normal a w:=by
  intro listed act a w hs I hall;obtain⟨V,vals,hx,hV⟩:=fit listed act;have hv:∀j,j<ops.size->vals j=act j:=λj hj=>qP.vals ok I (hlt listed hs) hx hV ops.size j hj (hall j hj);have hf:∀j,j<ops.size->(∀s,jV S j=some s->s.exp=[])->pQ ops S a0 vals j w:=λj hj he=>
   I.yR j (hall j hj) (λs hs i hi=>by rw[he s hs] at hi;cases hi) V vals hx (λi hi=>hv i (hlt listed hs i (I.closed j (hall j hj) i hi))) (hv j hj)
  have:=hx.last w I.grown (λp hp he=>I.aFq p hp (λi hi=>by rw[he] at hi;cases hi)) hf;have ha:bJ ops a0 vals ops.size=a:=by
   have h1:(bJ ops a0 vals ops.size).defers=a.defers:=by rw[Bd,I.defers]
   have h2:(bJ ops a0 vals ops.size).tmps=a.tmps:=by
    apply Array.ext_getElem?;intro t;by_cases hj:∃j,dA ops j=some t
    ·obtain⟨j,hj⟩:=hj
     have hjn:j<ops.size:=by
      rcases Nat.lt_or_ge j ops.size with h|h
      ·exact h
      ·unfold dA at hj;rw[Array.getElem?_eq_none h] at hj;simp at hj
     by_cases hts:t<a0.tmps.size
     ·rw[I.on j (hall j hjn) t hj hts,Ae a0 vals t hts j hj ops.size hjn ?_,hv j hjn]
      intro i h1 h2 hi;exact ok.dst i ops[i] (Array.getElem?_eq_getElem h2) j t h1 hj (by simpa[dA,Array.getElem?_eq_getElem h2] using hi)
     ·have Pm:a0.tmps.size<=t:=Nat.le_of_not_lt hts
      rw[Array.getElem?_eq_none (by rw[rT];exact Pm),Array.getElem?_eq_none (by rw[I.tY];exact Pm)]
    ·rw[I.off t (λj _ h=>hj ⟨j,h⟩),wX a0 vals t _ (λj _ h=>hj ⟨j,h⟩)]
   cases h:bJ ops a0 vals ops.size;cases a;rw[h] at h1 h2;simp only at h1 h2;rw[h1,h2]
  rw[ha] at this;exact this
 have stp:∀(listed:Array Bool) (act:Nat->Value) (a:Act) (w:World),listed.size=ops.size->qP P ops T S C I0 (Qe .normal) a0 (λj=>listed.getD j false=true) act a w->∀i∈Region.ready .any ops listed,∀K:Act->World->Prop,
  (∀act' a' w',qP P ops T S C I0 (Qe .normal) a0 (λj=>(listed.setIfInBounds i true).getD j false=true) act' a' w'->K a' w')->wpOp P ops Qe i K a w:=by
  intro listed act a w hs I i hi K hK;obtain⟨hnl,o,ho,Gy⟩:=mem_ready.1 hi;have hin':i<ops.size:=(Array.getElem?_eq_some_iff.1 ho).1;have Gx:¬(listed.getD i false=true):=by
   intro h;have:listed.getD i true=listed.getD i false:=by
    simp only[Array.getD_eq_getD_getElem?];rw[Array.getElem?_eq_getElem (by omega)];rfl
   rw[this,h] at hnl;cases hnl
  have hL:∀j,aW T i j=true->listed.getD j false=true:=λj hj=>by
   obtain⟨_,⟨e,he,hb,h⟩,_⟩:=ok.Jo i o ho j hj;rcases h with rfl|h
   ·exact Gy e he hb
   ·exact I.closed e.on (Gy e he hb) j h
  obtain⟨V,vals,hx,hV⟩:=fit listed act;have hv:∀j,aW T i j=true->vals j=act j:=λj hj=>qP.vals ok I (hlt listed hs) hx hV ops.size j (hlt listed hs j (hL j hj)) (hL j hj);have hsel:=λcs b=>ok.sel i o cs b ho;have agree:∀aR:Nat->Value,(∀j,aW T i j=true->aR j=act j)->execOp a.eval o=execOp (bJ ops a0 aR i).eval o/\Region.wanted o (yielded ops a.tmps)=dQ ops a0 aR i o:=λaR hv'=>
   Yx hsel (I.look ok ho hL hv')
  have hset:∀act' a' w',qP P ops T S C I0 (Qe .normal) a0 (λj=>listed.getD j false=true\/j=i) act' a' w'->K a' w':=λact' a' w' I'=>by
   refine hK act' a' w' ?_;have:(λj=>(listed.setIfInBounds i true).getD j false=true)=(λj=>listed.getD j false=true\/j=i):=funext λj=>propext (nT (by omega));rw[this];exact I'
  obtain⟨s1,s2⟩:=hx.step i o ho;obtain⟨he,xN⟩:=agree vals hv;have Bu:=I.facts ok ho hL Gx hx hv;have aFy:=I.aOt Gx;cases hw:dQ ops a0 vals i o with
  |false=>
   refine Nn ho (by rw[xN,hw]) ?_;refine hset _ _ _ (I.more ok ho hL Gx (hlt listed hs) hM (hM.refl _ _) undef ?_ ?_)
   ·intro V' aR hx' hv' _
    exact(hx'.step i o ho).1 (by rw[<-(agree aR hv').2,xN,hw])
   ·intro V' aR hx' hv' _ s o' _ ho' hw'
    rw[ho] at ho';cases ho';rw[<-(agree aR hv').2,xN,hw] at hw';cases hw'
  |true=>
   refine Nl ho (by rw[xN,hw]) ?_;have s3:=s2 hw;cases hsp:jV S i with
   |some s=>
    rw[hsp] at s3;obtain⟨hvi,aCB⟩:=s3;have hb:=aCB w I.grown aFy Bu;have fin:∀v w',M i w w'->s.shape v/\s.fact (nM vals s) v w'->K (a.put o.dst v) w':=λv w' hbw hsf=>by
     refine hset _ _ _ (I.more ok ho hL Gx (hlt listed hs) hM hbw v ?_ ?_)
     ·intro V' aR hx' hv' hVs
      have h5:=(hx'.step i o ho).2 (by rw[<-(agree aR hv').2,xN,hw]);rw[hsp] at h5;rw[h5.1];exact hVs (by unfold j3;rw[hsp];exact hsf.1)
     ·intro V' aR hx' hv' hvk s' o' hs' _ _
      rw[hsp] at hs';cases hs';rw[hvk,aFP hD hsp (V':=vals) (λi hi=>(hv' i hi).trans (hv i hi).symm)];exact hsf.2
    unfold gG at hb;unfold Oper.wp;rw[he];generalize(execOp (bJ ops a0 vals i).eval o).run P w=r at*;cases r with
    |halt x w'=>exact hb.elim
    |ok n w'=>
     cases n<;>first|exact fin _ _ hb.1 hb.2|(simp only at hb;done)|skip
     all_goals first
      |(refine Calls.mono hb ?_
        rintro e w'' ⟨v,rfl,h1,h2⟩;exact fin _ _ h1 h2)
      |exact hb.elim
   |none=>
    rw[hsp] at s3;have uD:=s3 w I.grown aFy Bu;have fin:K (a.put o.dst (vals i)) w:=by
     refine hset _ _ _ (I.more ok ho hL Gx (hlt listed hs) hM (hM.refl _ _) (vals i) ?_ ?_)
     ·intro V' aR hx' hv' _
      have h5:=(hx'.step i o ho).2 (by rw[<-(agree aR hv').2,xN,hw]);rw[hsp] at h5;have h6:=h5 w I.grown aFy (I.facts ok ho hL Gx hx' hv');have h7:=(agree aR hv').1;rw[he] at h7;unfold oG at uD h6;rw[<-h7] at h6;rcases uD with h|⟨h,h'⟩<;>rcases h6 with g|⟨g,g'⟩
      ·rw[h] at g;injection g with g _;injection g with g;exact g.symm
      ·rw[h] at g;cases g
      ·rw[h] at g;cases g
      ·rw[h',g']
     ·intro V' aR hx' hv' _ s' o' hs' _ _
      rw[hsp] at hs';cases hs'
    unfold Oper.wp;rw[he];unfold oG at uD;rcases uD with h|⟨h,h'⟩
    ·rw[h];exact fin
    ·rw[h];rw[h'] at fin;exact fin
 intro fuel
 induction fuel with
 |zero=>
  intro listed act a w hs hc I;have hall:∀j,j<ops.size->listed.getD j false=true:=λj hj=>by
   have h0:(List.range ops.size).countP (λi=> !listed.getD i false)=0:=by omega
   have:=List.countP_eq_zero.1 h0 j (List.mem_range.2 hj);simpa using this
  refine⟨?_,done listed act a w hs I hall⟩;cases hr:Region.ready .any ops listed with
  |nil=>rfl
  |cons x l=>
   have hx:x∈Region.ready .any ops listed:=by rw[hr];exact List.mem_cons_self
   obtain⟨h1,o,ho,_⟩:=mem_ready.1 hx;have hxn:x<ops.size:=(Array.getElem?_eq_some_iff.1 ho).1;have h2:=hall x hxn;simp only[Array.getD_eq_getD_getElem?] at h1 h2;rw[Array.getElem?_eq_getElem (by omega)] at h1 h2;simp only[Option.getD_some] at h1 h2;rw[h1] at h2;cases h2
 |succ fuel ih=>
  intro listed act a w hs hc I;refine⟨λhr=>done listed act a w hs I (λj hj=>zB ok hs hr ops.size j hj hj),λi hi=> ?_⟩;obtain⟨hnl,o,ho,_⟩:=mem_ready.1 hi;have hin':i<ops.size:=(Array.getElem?_eq_some_iff.1 ho).1;refine stp listed act a w hs I i hi _ λact' a' w' I'=>ih _ act' a' w' (by simpa using hs) ?_ I';have hfi:listed.getD i false=false:=by
   simp only[Array.getD_eq_getD_getElem?] at*;rw[Array.getElem?_eq_getElem (by omega)] at*;simpa using hnl
  have:=Ha (p:=λj=> !listed.getD j false) (q:=λj=> !(listed.setIfInBounds i true).getD j false) (i:=i) (λx hx=>by
   cases h:listed.getD x false with
   |false=>rfl
   |true=>
    have h9:=(nT (listed:=listed) (i:=i) (j:=x) (by omega)).2 (.inl h);simp[h9] at hx) (by simp[hfi]) (by
    have h9:=(nT (listed:=listed) (i:=i) (j:=i) (by omega)).2 (.inr rfl);simp[h9]) (List.range ops.size) (List.mem_range.2 hin')
  omega
end
theorem Yq {id:Nat} {Q:Exit->Act->World->Prop} {a:Act} {w:World} {l:List Oper} (M:Nat->World->World->Prop) (C:World->Prop) (I0:List (List Nat×(World->Prop))) (S:List (fG M)) (hm:P.follows .mixedOrders=true) (hM:vF M C I0) (h0:C { w with drawn:=w.drawn+1 }) (h1:∀p∈I0,p.2 { w with drawn:=w.drawn+1 }) (hB:yF l.toArray (ahead l.toArray l.length)=true) (hd:Ji l.toArray S (ahead l.toArray l.length)=true)
 (h:∀V:Nat->Value,(∀k,j3 S k (V k))->jF P l.toArray (ahead l.toArray l.length) S C I0 V (Q .normal) l 0 [] a):(Code.region id l.toArray true).wp P Q a w:=by
 have ok:=En hB;refine wp_region_any hm (Ta (S:=S) (C:=C) (I0:=I0) (a0:=a) ok (G9 hd) hM (λV hV=> ?_) _ _ (λ_=>undef) _ _ (by simp) (by have:=List.countP_le_length (p:=λi=> !(Array.replicate l.toArray.size false).getD i false) (l:=List.range l.toArray.size);simpa using this) ?_)
 ·exact Ic (G9 hd) l 0 [] (λ_=>undef) (by simp) (by simp) (λp hp=>by cases hp) (λj o hj=>by omega) (h V hV)
 ·have hno:∀j,¬((Array.replicate l.toArray.size false).getD j false=true):=λj hj=>by
   simp only[Array.getD_eq_getD_getElem?,Array.getElem?_replicate] at hj;split at hj<;>simp at hj
  exact⟨h0,λj hj=>absurd hj (hno j),rfl,rfl,λ_ _=>rfl,λj hj=>absurd hj (hno j),λj hj=>absurd hj (hno j),λp hp _=>h1 p hp,λj hj=>absurd hj (hno j)⟩
theorem Ni {id:Nat} {Q:Exit->Act->World->Prop} {a:Act} {w:World} {l:List Oper} (n:Nat) (M:Nat->World->World->Prop) (C:World->Prop) (I0:List (List Nat×(World->Prop))) (S:List (fG M)) (hm:P.follows .mixedOrders=true) (hM:vF M C I0) (h0:C { w with drawn:=w.drawn+1 }) (h1:∀p∈I0,p.2 { w with drawn:=w.drawn+1 }) (hB:yF (l.take n).toArray (ahead (l.take n).toArray (l.take n).length)=true) (hd:Ji (l.take n).toArray S (ahead (l.take n).toArray (l.take n).length)=true) (hT:Bh l n=true)
 (h:∀V:Nat->Value,(∀k,j3 S k (V k))->jF P (l.take n).toArray (ahead (l.take n).toArray (l.take n).length) S C I0 V (λa w=>wpList P l.toArray Q (l.drop n) a w) (l.take n) 0 [] a):(Code.region id l.toArray true).wp P Q a w:=by
 have ok:=En hB;have hn:n<l.length:=by
  have Jd:=hT;simp only[Bh,Bool.and_eq_true,decide_eq_true_eq] at Jd;exact Jd.1.1.1.1
 have hln:(l.take n).length=n:=by simp;omega
 refine wp_region_any hm ?_;have hr:∀m j:Nat,(Array.replicate m false).getD j false=false:=λm j=>by
  simp only[Array.getD_eq_getD_getElem?,Array.getElem?_replicate];split<;>rfl
 have H:=Ta (P:=P) (ops:=(l.take n).toArray) (Qe:=aFY P l.toArray Q (l.drop n)) (S:=S) (C:=C) (I0:=I0) (a0:=a) ok (G9 hd) hM (λV hV=>Ic (G9 hd) (l.take n) 0 [] (λ_=>undef) (by simp) (by simp) (λp hp=>by cases hp) (λj o hj=>by omega) (h V hV)) n
  (Array.replicate n false) (λ_=>undef) a { w with drawn:=w.drawn+1 } (by simp;omega) (by
    have:=List.countP_le_length (p:=λi=> !(Array.replicate n false).getD i false) (l:=List.range (l.take n).toArray.size);simp at this⊢;omega) ?_
 ·have:=Tc (P:=P) (Q:=Q) ok hT n (Array.replicate n false) (Array.replicate l.toArray.size false) a { w with drawn:=w.drawn+1 } ⟨by simp,λi hi=>by rw[Array.getElem?_replicate,Array.getElem?_replicate,if_pos hi,if_pos (by simp;omega)]⟩
   ⟨by simp,λj oj _ hl=>(by rw[hr] at hl;cases hl),λt _ ht=>getD_in (by simpa using ht) (hr _ _)⟩ H
  rwa[show n+(l.length -n)=l.toArray.size by simp;omega] at this
 ·have hno:∀j,¬((Array.replicate n false).getD j false=true):=λj hj=>by rw[hr] at hj;cases hj
  exact⟨h0,λj hj=>absurd hj (hno j),rfl,rfl,λ_ _=>rfl,λj hj=>absurd hj (hno j),λj hj=>absurd hj (hno j),λp hp _=>h1 p hp,λj hj=>absurd hj (hno j)⟩
end
section
variable {P:Program} {ops:Array Oper} {M:Nat->World->World->Prop}
variable {T:List (List Nat)} {S:List (fG M)} {C:World->Prop} {I0:List (List Nat×(World->Prop))} {V:Nat->Value} {Q:Act->World->Prop} {rest:List Oper} {k:Nat} {G:List (Nat×List Nat×(World->Prop))} {a:Act} {o:Oper}
theorem dq (wt:World) (hC:∀w,C w->Below wt.heap.size wt w) (hk:jV S k=none) (hh:Bt o.op=true) (h:wpQuiet P ops (λw'=>∃p:Regrown,w'=grow (redrawn wt p.d) p.os) (λa'=>Wr (jF P ops T S C I0 V Q rest (k+1) G a')) [o] a):Wr (jF P ops T S C I0 V Q (o::rest) k G a):=by
 refine Wr.mk ?_;replace h:=jK h;unfold wpQuiet at h;unfold jF;by_cases hw:Region.wanted o (yielded ops a.tmps)=true
 ·rw[if_pos hw] at h⊢
  rw[hk];obtain⟨v,h1,h2⟩:=h;exact⟨v,λw hb _ _=>wJ hh (h1 w (regrown_of_below (hC w hb))),h2⟩
 ·rw[if_neg hw] at h⊢
  exact h
theorem df (wt:World) (v:Value) {dst:Option Tmp} {op:Op} {type:TypeId} {pos:String} {after:Array Edge} {guard:Option (Nat×Bool)} (hw:Region.wanted ⟨dst,op,type,pos,after,guard⟩ (yielded ops a.tmps)=true) (hk:jV S k=none)
 (h1:∀w,C w->(∀p∈I0,usable T p.1 k=true->p.2 w)->(∀p∈G,aW T k p.1=true->usable T p.2.1 k=true->p.2.2 w)->(execOp a.eval ⟨dst,op,type,pos,after,guard⟩).run P w=.ok (.value v) w)
 (h:wpQuiet P ops (λw'=>∃p:Regrown,w'=grow (redrawn wt p.d) p.os) (λa'=>Wr (jF P ops T S C I0 V Q rest (k+1) G a')) [⟨dst,.move (.const v),type,pos,after,none⟩] a):Wr (jF P ops T S C I0 V Q (⟨dst,op,type,pos,after,guard⟩::rest) k G a):=by
 refine Wr.mk ?_;unfold jF;rw[if_pos hw,hk];exact⟨v,λw hb hi hf=>.inl (h1 w hb hi hf),z8 (jK h)⟩
theorem dn (wt:World) {x:Operand} (A:Addr) {dst:Option Tmp} {type:TypeId} {pos:String} {after:Array Edge} {guard:Option (Nat×Bool)} (hw:Region.wanted ⟨dst,.nilCheck x,type,pos,after,guard⟩ (yielded ops a.tmps)=true) (hk:jV S k=none) (hx:a.eval x=.pointer (some A))
 (h:wpQuiet P ops (λw'=>∃p:Regrown,w'=grow (redrawn wt p.d) p.os) (λa'=>Wr (jF P ops T S C I0 V Q rest (k+1) G a')) [⟨dst,.move (.const (.pointer (some A))),type,pos,after,none⟩] a):Wr (jF P ops T S C I0 V Q (⟨dst,.nilCheck x,type,pos,after,guard⟩::rest) k G a):=
 df wt (.pointer (some A)) hw hk (λw hb hi hf=>by simp[execOp,hx]) h
theorem P8 (wt:World) (s:fG M) {dst:Option Tmp} {op:Op} {type:TypeId} {pos:String} {after:Array Edge} {guard:Option (Nat×Bool)} (hw:Region.wanted ⟨dst,op,type,pos,after,guard⟩ (yielded ops a.tmps)=true) (hk:jV S k=some s)
 (h1:∀w,C w->(∀p∈I0,usable T p.1 k=true->p.2 w)->(∀p∈G,aW T k p.1=true->usable T p.2.1 k=true->p.2.2 w)->gG (M k) P ⟨dst,op,type,pos,after,guard⟩ a w λv w'=>s.shape v/\s.fact (nM V s) v w')
 (h:wpQuiet P ops (λw'=>∃p:Regrown,w'=grow (redrawn wt p.d) p.os) (λa'=>Wr (jF P ops T S C I0 V Q rest (k+1) ((k,s.exp,s.fact (nM V s) (V k))::G) a')) [⟨dst,.move (.const (V k)),type,pos,after,none⟩] a):Wr (jF P ops T S C I0 V Q (⟨dst,op,type,pos,after,guard⟩::rest) k G a):=by
 refine Wr.mk ?_;unfold jF;rw[if_pos hw,hk];exact⟨h1,z8 (jK h)⟩
theorem Zl (h:∀w,C w->(∀p∈I0,p.1=[]->p.2 w)->(∀p∈G,p.2.1=[]->p.2.2 w)->Q a w):Wr (jF P ops T S C I0 V Q [] k G a):=Wr.mk h
theorem aDT {id:Nat} {Q:Exit->Act->World->Prop} {a:Act} {w:World} {l:List Oper} (M:Nat->World->World->Prop) (C:World->Prop) (I0:List (List Nat×(World->Prop))) (S:List (fG M)) (hm:P.follows .mixedOrders=true) (hM:vF M C I0) (h0:C { w with drawn:=w.drawn+1 }) (h1:∀p∈I0,p.2 { w with drawn:=w.drawn+1 }) (hB:yF l.toArray (ahead l.toArray l.length)=true) (hd:Ji l.toArray S (ahead l.toArray l.length)=true)
 (h:∀V:Nat->Value,(∀k,j3 S k (V k))->Wr (jF P l.toArray (ahead l.toArray l.length) S C I0 V (Q .normal) l 0 [] a)):(Code.region id l.toArray true).wp P Q a w:=Yq M C I0 S hm hM h0 h1 hB hd λV hV=>(h V hV).out
theorem J2 {id:Nat} {Q:Exit->Act->World->Prop} {a:Act} {w:World} {l:List Oper} (n:Nat) (M:Nat->World->World->Prop) (C:World->Prop) (I0:List (List Nat×(World->Prop))) (S:List (fG M)) (hm:P.follows .mixedOrders=true) (hM:vF M C I0) (h0:C { w with drawn:=w.drawn+1 }) (h1:∀p∈I0,p.2 { w with drawn:=w.drawn+1 }) (hB:yF (l.take n).toArray (ahead (l.take n).toArray (l.take n).length)=true) (hd:Ji (l.take n).toArray S (ahead (l.take n).toArray (l.take n).length)=true) (hT:Bh l n=true)
 (h:∀V:Nat->Value,(∀k,j3 S k (V k))->Wr (jF P (l.take n).toArray (ahead (l.take n).toArray (l.take n).length) S C I0 V (λa w=>wpList P l.toArray Q (l.drop n) a w) (l.take n) 0 [] a)):(Code.region id l.toArray true).wp P Q a w:=Ni n M C I0 S hm hM h0 h1 hB hd hT λV hV=>(h V hV).out
end
end
end Go.Proofs.YtoogfmbojlpjaaaGreat
namespace Go.Proofs.YtoogfmbojlpjaaaGreat
open Go.ChangeShapes Go.WideShapes Go.ChangeAt Go.RowKit Go.Joins Go.Sort
theorem iB {o:Oper} {a:Act} {w:World} {f:FuncId} {args:Array Value} {v:Value} {k:Nat} (h:(execOp a.eval o).run Tryz.prog w=.ok (.enter f args) w) (hc:Calls Tryz.prog f args w λe w'=>e=.returned v/\Below w.heap.size w w'):becomes Tryz.prog o a w λu w'=>(Sp.call k v).shape u/\(Sp.call k v).fact u w':=
 bY h (hc.mono λe w' h=>⟨v,h.1,h.2,rfl,trivial⟩)
theorem rF {o:Oper} {a:Act} {w:World} {f:FuncId} {args:Array Value} {v:Value} {k:Nat} (h:(execOp a.eval o).run Tryz.prog w=.ok (.enter f args) w) (hc:Calls Tryz.prog f args w λe w'=>e=.returned v/\w'=w):becomes Tryz.prog o a w λu w'=>(Sp.call k v).shape u/\(Sp.call k v).fact u w':=
 iB h (hc.mono λe w' h=>⟨h.1,by rw[h.2];exact Below.refl _ _⟩)
end Go.Proofs.YtoogfmbojlpjaaaGreat
