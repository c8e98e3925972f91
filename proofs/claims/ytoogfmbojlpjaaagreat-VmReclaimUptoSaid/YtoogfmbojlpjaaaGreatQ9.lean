/- Lemmas. -/
import Derived.Test.YtoogfmbojlpjaaaGreatQ5
import Derived.Test.YtoogfmbojlpjaaaGreatQ6
import Derived.Laws.OwnMore
import Derived.Test.YtoogfmbojlpjaaaGreatQA
set_option maxRecDepth 100000
set_option maxHeartbeats 32000000
set_option linter.unusedVariables false
set_option linter.unusedSimpArgs false
namespace Go.Proofs.YtoogfmbojlpjaaaGreat
open Go.ChangeShapes Go.WideShapes Go.ChangeAt Go.RowKit Go.Joins
section
theorem I4 {P:Program} {ops:Array Oper} {o:Oper} {a:Act} {w w':World} {K:Act->World->Prop} {Q:Exit->Act->World->Prop} {E:Prop}
 (hg:o.guard=none) (s x:Operand) (t:TypeId) (hop:o.op=Op.call { callee:=Callee.builtin Builtin.append,args:= #[s,x],argTypes:= #[t,t] })
 (vs vx v:Value) (hs:a.eval s=vs) (hx:a.eval x=vx) (hrun:(Builtin.append_ #[t,t] o.type #[vs,vx]).run P w=.ok v w') (hK:K (a.put o.dst v) w'):
 if Region.wanted o (yielded ops a.tmps)=true then Oper.wp P o a w K Q else E:=by
 have hw:Region.wanted o (yielded ops a.tmps)=true:=by simp[Region.wanted,hg]
 rw[if_pos hw];unfold Oper.wp;simp[execOp,hop,resolve,invoke,builtin,hs,hx,hrun,Result.andThen];exact hK
section
variable {α:Type} {f:α->List Value} {sz:Nat} {w w':World} {B B' base:Nat} {n c:Nat} {xs:List α} {T:TypeId} {v:Value}
theorem aHt (hf:∀x,(f x).length=sz) (xs:List α) (k:Nat) (hk:k<=xs.length):(xs.drop k).flatMap f=(xs.flatMap f).drop (k*sz):=by
 have h:xs.flatMap f=(xs.take k).flatMap f++(xs.drop k).flatMap f:=by rw[<-List.flatMap_append,List.take_append_drop]
 rw[h,List.drop_left' (by rw[iV hf,List.length_take];congr 1;omega)]
theorem Os.aDa {P:Program} {g k:Nat} {t e:TypeId} {z:Value} (hf:∀x,(f x).length=sz) (hs:0<sz) (ht:P.underlying t=some (.slice e)) (hv:∀w,(zeroValue e).run P w=.ok z w) (hz:z.cells.size=sz) (h1:∀u∈z.cells.toList,u.oneCell'=true)
 (h:Os f sz T w base (.slice (some ⟨g,0,none⟩) k c) xs) (hi:k<n) (hnc:n<=c) (c':Nat):
 ∃w',(∀ty,(Builtin.clear_ #[t] ty #[.slice (some ⟨g,k*sz,none⟩) (n -k) c']).run P w=.ok (.tuple #[]) w')/\w'.heap.size=w.heap.size/\(∀B w0,B<=g->Below B w0 w->Below B w0 w')/\Os f sz T w' base (.slice (some ⟨g,0,none⟩) k c) xs:=by
 obtain⟨g',cur,e',hl,hg,hh,hn,hm,hzc,hxs⟩:=h.inv;injection e' with e';subst e';have hb:k*sz+(n -k)*sz=n*sz:=by rw[<-Nat.add_mul];congr 1;omega
 have hb2:n*sz<=c*sz:=Nat.mul_le_mul_right _ hnc;have hzl:(Builtin.zeroCells z.cells (n -k)).toList.length=(n -k)*sz:=by simp[Builtin.zeroCells,hz,Nat.mul_comm]
 have hst:=run_storeCells_at P g (k*sz) T (Builtin.zeroCells z.cells (n -k)).toList 0 cur w hh (by rw[hzl,Nat.add_zero];omega) (by
  intro u hu;simp only[Builtin.zeroCells] at hu;simp at hu;obtain⟨k,hk,rfl⟩:=hu;have hk2:k%z.cells.size<z.cells.size:=Nat.mod_lt _ (by omega);rw[getElem!_pos z.cells _ hk2];exact h1 _ (by simp))
 obtain⟨row,hrow⟩:∃r,r=(cur.toList.take (k*sz+0)++(Builtin.zeroCells z.cells (n -k)).toList++cur.toList.drop (k*sz+0+(Builtin.zeroCells z.cells (n -k)).toList.length)).toArray:=⟨_,rfl⟩;rw[<-hrow] at hst;refine⟨w.setRow g row,?_,setRow_size _ _ _,λB w0 hB hbl=>below_setRow hbl hB _,?_⟩
 ·intro ty
  obtain⟨m,hm2⟩:∃m,n -k=m+1:=⟨n -k -1,by omega⟩;rw[hm2] at hst⊢;simp[Builtin.clear_,run_underlying ht,hv,hst]
 ·have hcl:cur.toList.length=c*sz:=by rw[Array.length_toList];exact hzc
  have hrz:row.size=c*sz:=by
   rw[hrow,List.size_toArray,List.length_append,List.length_append,List.length_take,List.length_drop,hzl,hcl];omega
  have hrt:row.toList.take (k*sz)=cur.toList.take (k*sz):=by
   have e1:(cur.toList.take (k*sz)).length=k*sz:=by rw[List.length_take,hcl];omega
   rw[hrow,Nat.add_zero,List.append_assoc,List.take_append_of_le_length (by rw[e1];exact nR _),List.take_take,Nat.min_self]
  have:=Os.mk (f:=f) (xs:=xs) (c:=c) hg (setRow_heap w g cur row T (0,0) hh) (by omega) hm hrz hf (by rw[<-hl,hrt,hl,hxs]);rw[<-hl] at this;exact this
theorem Os.aFQ {P:Program} {g i:Nat} {t ty:TypeId} {info:TypeInfo} (hf:∀x,(f x).length=sz) (hs:0<sz) (h1:∀x,∀u∈f x,u.oneCell'=true) (ht:P.underlying t=some (.slice T)) (hi:P.info? T=some info) (hsize:info.size=sz)
 (h:Os f sz T w base (.slice (some ⟨g,0,none⟩) n c) xs) (hin:i<xs.length) (c':Nat):
 ∃w',(Builtin.append_ #[t,t] ty #[.slice (some ⟨g,0,none⟩) i c,.slice (if c=i+1 then some ⟨g,0,none⟩ else some ⟨g,(i+1)*sz,none⟩) (xs.length - (i+1)) c']).run P w=.ok (.slice (some ⟨g,0,none⟩) (xs.length -1) c) w'/\
  Os f sz T w' base (.slice (some ⟨g,0,none⟩) (xs.length -1) c) (xs.eraseIdx i)/\(∀B w0,B<=g->Below B w0 w->Below B w0 w')/\w.heap.size<=w'.heap.size:=by
 obtain⟨gl,gb,hnl,hnc,hcm⟩:=h.vP;have hO:=h.take (k:=i) hf (by omega);have hlen:(xs.take i).length=i:=by simp;omega
 obtain⟨a,ha⟩:∃a:Addr,(if c=i+1 then some (⟨g,0,none⟩:Addr) else some ⟨g,(i+1)*sz,none⟩)=some a:=by split<;>exact⟨_,rfl⟩
 have hcells:∀j u,((xs.drop (i+1)).flatMap f)[j]? =some u->w.cell? (a.add j)=some u:=by
  intro j u hu;by_cases hc:c=i+1
  ·rw[List.drop_eq_nil_of_le (by omega)] at hu;simp at hu
  ·rw[if_neg hc] at ha
   cases ha;obtain⟨A,c2,e,_,_,hr⟩:=h.row hf;injection e with e1 e2 e3;subst e1;have hc2:=(Rw.cells hf hs hr).2;rw[aHt hf _ _ (by omega),List.getElem?_drop] at hu;have:=hc2 _ _ hu;rw[addr_add] at this⊢;rw[<-this];congr 2;omega
 have hln:(xs.drop (i+1)).length=xs.length - (i+1):=by simp
 have hown:w.ownsRow base T sz (.slice (some ⟨g,0,none⟩) i c) i ((xs.take i).flatMap f):=by
  have:=hO;unfold Os at this;rw[hlen] at this;exact this
 obtain⟨w',hr,ho',hgr⟩:=run_append_fits (P:=P) w base t ty T info sz ht hi hsize g i c ((xs.take i).flatMap f) hown a (xs.length - (i+1)) c' ((xs.drop (i+1)).flatMap f) (by rw[iV hf,hln]) hcells (λu hu=>by
  obtain⟨y,_,hy⟩:=List.mem_flatMap.1 hu;exact h1 y u hy) (by omega)
 have e1:i+(xs.length - (i+1))=xs.length -1:=by omega
 rw[e1] at hr ho';refine⟨w',by rw[ha];exact hr,?_,λB w0 hB hb=>hb.grown hgr (by
  have:=hb.size;omega) (by intro k hk;simp at hk;omega),?_⟩
 ·unfold Os
  rw[List.eraseIdx_eq_take_drop_succ,List.flatMap_append,List.length_append,hlen,hln,e1];exact ho'
 ·exact hgr.size
end
end
end Go.Proofs.YtoogfmbojlpjaaaGreat
