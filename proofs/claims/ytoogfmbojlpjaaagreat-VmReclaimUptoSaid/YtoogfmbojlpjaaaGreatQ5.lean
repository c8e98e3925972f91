/- Lemmas. -/
import Derived.Test.YtoogfmbojlpjaaaGreatQ4
import Derived.Shelf.GgSortFunc.RowK
import Derived.Laws.CopyOwn
import Derived.Test.YtoogfmbojlpjaaaGreatQA
set_option maxRecDepth 100000
set_option maxHeartbeats 32000000
set_option linter.unusedVariables false
set_option linter.unusedSimpArgs false
namespace Go.Proofs.YtoogfmbojlpjaaaGreat
open Go.ChangeShapes Go.WideShapes Go.ChangeAt Go.RowKit Go.Joins
section
theorem uO {T:TypeId} {g:Nat} :∀(vs:List Value) (o:Nat) (w:World) (cur:Array Value),w.heap[g]? =some (.cells cur T (0,0))->(w.setCells g o vs).heap[g]? =some (.cells (Go.Sort.setMany cur o vs) T (0,0))
 | [],_,_,_,h=>h
 |v::r,o,w,cur,h=>by
  unfold World.setCells Go.Sort.setMany;refine uO r (o+1) _ _ ?_;simp[World.setCell,Array.getElem?_modify,h]
theorem below_setCells {B g:Nat} {w0:World} (hg:B<=g):∀(vs:List Value) (o:Nat) (w:World),Below B w0 w->Below B w0 (w.setCells g o vs)
 | [],_,_,h=>h
 |v::r,o,w,h=>by unfold World.setCells;exact below_setCells hg r (o+1) _ (h.setCell hg _)
theorem setCells_size {g:Nat} :∀(vs:List Value) (o:Nat) (w:World),(w.setCells g o vs).heap.size=w.heap.size
 | [],_,_=>rfl
 |v::r,o,w=>by unfold World.setCells;rw[setCells_size r];simp[World.setCell]
theorem yE:∀(vs:List Value) (s:Nat) (F:Array Value) (t:Nat),s+vs.length<=F.size->(Go.Sort.setMany F s vs)[t]? =if s<=t/\t<s+vs.length then vs[t -s]? else F[t]?
 | [],s,F,t,_=>by simp[Go.Sort.setMany];omega
 |v::r,s,F,t,h=>by
  simp only[List.length_cons] at h;unfold Go.Sort.setMany;rw[yE r (s+1) _ t (by simp;omega)];simp only[List.length_cons];by_cases h1:s+1<=t/\t<s+1+r.length
  ·rw[if_pos h1,if_pos (by omega),show t -s=(t - (s+1))+1 by omega];simp
  ·rw[if_neg h1]
   by_cases h2:t=s
   ·subst h2
    rw[if_pos (by omega),Array.getElem?_setIfInBounds_self_of_lt (by omega)];simp
   ·rw[if_neg (by omega),Array.getElem?_setIfInBounds_ne (λe=>h2 e.symm)]
section
variable {α:Type} {f:α->List Value} {sz:Nat} {w w':World} {B B' base:Nat} {n c:Nat} {xs:List α} {T:TypeId} {v:Value}
theorem Os.mk {g:Nat} {cur:Array Value} (hg:base<=g) (hh:w.heap[g]? =some (.cells cur T (0,0))) (hn:xs.length<=c) (hm:c<=maxLen) (hz:cur.size=c*sz) (hf:∀x,(f x).length=sz) (hx:cur.toList.take (xs.length*sz)=xs.flatMap f):
 Os f sz T w base (.slice (some ⟨g,0,none⟩) xs.length c) xs:=⟨iV hf xs,.inr ⟨g,c,cur,rfl,hg,hh,hn,hm,hz,hx⟩⟩
theorem Os.inv {a:Addr} (h:Os f sz T w base (.slice (some a) n c) xs):∃g cur,a=⟨g,0,none⟩/\n=xs.length/\base<=g/\w.heap[g]? =some (.cells cur T (0,0))/\n<=c/\c<=maxLen/\cur.size=c*sz/\cur.toList.take (xs.length*sz)=xs.flatMap f:=by
 obtain⟨h1,⟨e,h⟩|⟨g,cap,cur,e,hg,hh,hn,hm,hz,hx⟩⟩:=h
 ·cases e
 ·injection e with e1 e2 e3
  injection e1 with e1;subst e1 e2 e3;exact⟨g,cur,rfl,rfl,hg,hh,hn,hm,hz,hx⟩
theorem Pz (hf:∀x,(f x).length=sz):∀(xs:List α) (k:Nat),(xs.take k).flatMap f=(xs.flatMap f).take (k*sz)
 | [],k=>by simp
 |x::xs,0=>by simp
 |x::xs,k+1=>by
  have e:(f x).take (k*sz+sz)=f x:=List.take_of_length_le (by rw[hf];omega);rw[List.take_succ_cons,List.flatMap_cons,Pz hf xs k,List.flatMap_cons,List.take_append,hf,Nat.succ_mul,e,show k*sz+sz -sz=k*sz by omega]
theorem Os.set {g i:Nat} (hf:∀x,(f x).length=sz) (hs:0<sz) (h:Os f sz T w base (.slice (some ⟨g,0,none⟩) n c) xs) (hi:i<xs.length) (x:α):Os f sz T (w.setCells g (i*sz) (f x)) base (.slice (some ⟨g,0,none⟩) n c) (xs.set i x):=by
 obtain⟨g',cur,e,rfl,hg,hh,hn,hm,hz,hx⟩:=h.inv;injection e with e;subst e;have hb:i*sz+sz<=xs.length*sz:=by
  have:(i+1)*sz<=xs.length*sz:=Nat.mul_le_mul_right _ (by omega);rw[Nat.succ_mul] at this;omega
 have hb2:xs.length*sz<=c*sz:=Nat.mul_le_mul_right _ hn;have hl:(xs.set i x).length=xs.length:=by simp
 rw[<-hl];refine Os.mk hg (uO _ _ _ _ hh) (by rw[hl];exact hn) hm (by rw[Go.Sort.size_setMany];exact hz) hf ?_;apply List.ext_getElem?;intro m;rw[hl,List.getElem?_take];split
 ·rename_i hm2
  rw[Array.getElem?_toList,yE _ _ _ _ (by rw[hf];omega),hf];have lX:cur[m]? =(xs.flatMap f)[m]? :=by
   rw[<-hx,List.getElem?_take,if_pos hm2,Array.getElem?_toList]
  have hi2:m/sz<xs.length:=(Nat.div_lt_iff_lt_mul hs).2 hm2;have hd:=Nat.div_add_mod' m sz;have hr:=Nat.mod_lt m hs;have e2:((xs.set i x).flatMap f)[m]? =if m/sz=i then(f x)[m%sz]? else(xs.flatMap f)[m]? :=by
   obtain⟨y,hy⟩:∃y,(xs.set i x)[m/sz]? =some y:=⟨_,List.getElem?_eq_getElem (by rw[hl];exact hi2)⟩;have a1:=vM hf _ _ y hy (m%sz) hr;rw[hd] at a1;rw[a1];by_cases e:m/sz=i
   ·rw[e,List.getElem?_set_self hi] at hy
    cases hy;rw[if_pos e]
   ·rw[if_neg e]
    rw[List.getElem?_set_ne (λh=>e h.symm)] at hy;have a2:=vM hf _ _ y hy (m%sz) hr;rw[hd] at a2;exact a2.symm
  rw[e2];by_cases e:m/sz=i
  ·rw[if_pos e,if_pos (by subst e;omega)];congr 1;subst e;omega
  ·rw[if_neg e,if_neg,lX]
   intro hc;exact e ((Go.Sort.blk_iff sz i m hs).1 hc)
 ·rename_i hm2
  rw[List.getElem?_eq_none];rw[iV hf,hl];omega
theorem Os.take {k:Nat} (hf:∀x,(f x).length=sz) {g:Nat} (h:Os f sz T w base (.slice (some ⟨g,0,none⟩) n c) xs) (hk:k<=xs.length):Os f sz T w base (.slice (some ⟨g,0,none⟩) k c) (xs.take k):=by
 obtain⟨g',cur,e,rfl,hg,hh,hn,hm,hz,hx⟩:=h.inv;injection e with e;subst e;have hl:(xs.take k).length=k:=by simp;omega
 have:=Os.mk (f:=f) (xs:=xs.take k) (c:=c) hg hh (by omega) hm hz hf (by rw[hl,Pz hf,<-hx,List.take_take,Nat.min_eq_left (Nat.mul_le_mul_right _ hk)]);rwa[hl] at this
theorem Os.cells {g i:Nat} {x:α} (hf:∀x,(f x).length=sz) (h:Os f sz T w base (.slice (some ⟨g,0,none⟩) n c) xs) (hx:xs[i]? =some x):∀j u,(f x)[j]? =some u->w.cell? ⟨g,i*sz+j,none⟩=some u/\w.frozen? ⟨g,i*sz+j,none⟩=false:=λj u hu=>by
 obtain⟨g',cur,e,rfl,hg,hh,hn,hm,hz,hxs⟩:=h.inv;injection e with e;subst e;obtain⟨A,c',e,_,_,hr⟩:=h.row hf;injection e with e1 e2 e3;subst e1;have:=hr.at_ hf hx j u hu;rw[Nat.zero_add] at this;exact⟨this,gQ hh _⟩
theorem Os.vP {g:Nat} (h:Os f sz T w base (.slice (some ⟨g,0,none⟩) n c) xs):g<w.heap.size/\base<=g/\n=xs.length/\n<=c/\c<=maxLen:=by
 obtain⟨g',cur,e,hl,hg,hh,hn,hm,hz,hxs⟩:=h.inv;injection e with e;subst e;exact⟨kM hh,hg,hl,hn,hm⟩
theorem Os.clear {P:Program} {g i:Nat} {t e:TypeId} {z:Value} (hf:∀x,(f x).length=sz) (hs:0<sz) (ht:P.underlying t=some (.slice e)) (hv:∀w,(zeroValue e).run P w=.ok z w) (hz:z.cells.size=sz) (h1:∀u∈z.cells.toList,u.oneCell'=true)
 (h:Os f sz T w base (.slice (some ⟨g,0,none⟩) n c) xs) (hi:i<n) (c':Nat):
 ∃w',(∀ty,(Builtin.clear_ #[t] ty #[.slice (some ⟨g,i*sz,none⟩) (n -i) c']).run P w=.ok (.tuple #[]) w')/\w'.heap.size=w.heap.size/\(∀B w0,B<=g->Below B w0 w->Below B w0 w')/\Os f sz T w' base (.slice (some ⟨g,0,none⟩) i c) (xs.take i):=by
 obtain⟨g',cur,e',hl,hg,hh,hn,hm,hzc,hxs⟩:=h.inv;injection e' with e';subst e';have hb:i*sz+(n -i)*sz=n*sz:=by rw[<-Nat.add_mul];congr 1;omega
 have hb2:n*sz<=c*sz:=Nat.mul_le_mul_right _ hn;have hzl:(Builtin.zeroCells z.cells (n -i)).toList.length=(n -i)*sz:=by simp[Builtin.zeroCells,hz,Nat.mul_comm]
 have hst:=run_storeCells_at P g (i*sz) T (Builtin.zeroCells z.cells (n -i)).toList 0 cur w hh (by rw[hzl,Nat.add_zero];omega) (by
  intro u hu;simp only[Builtin.zeroCells] at hu;simp at hu;obtain⟨k,hk,rfl⟩:=hu;have hk2:k%z.cells.size<z.cells.size:=Nat.mod_lt _ (by omega);rw[getElem!_pos z.cells _ hk2];exact h1 _ (by simp))
 obtain⟨row,hrow⟩:∃r,r=(cur.toList.take (i*sz+0)++(Builtin.zeroCells z.cells (n -i)).toList++cur.toList.drop (i*sz+0+(Builtin.zeroCells z.cells (n -i)).toList.length)).toArray:=⟨_,rfl⟩;rw[<-hrow] at hst;refine⟨w.setRow g row,?_,setRow_size _ _ _,λB w0 hB hbl=>below_setRow hbl hB _,?_⟩
 ·intro ty
  obtain⟨m,hm2⟩:∃m,n -i=m+1:=⟨n -i -1,by omega⟩;rw[hm2] at hst⊢;simp[Builtin.clear_,run_underlying ht,hv,hst]
 ·have hlen:(xs.take i).length=i:=by simp;omega
  have hcl:cur.toList.length=c*sz:=by rw[Array.length_toList];exact hzc
  have hrz:row.size=c*sz:=by
   rw[hrow,List.size_toArray,List.length_append,List.length_append,List.length_take,List.length_drop,hzl,hcl];omega
  have hrt:row.toList.take (i*sz)=cur.toList.take (i*sz):=by
   have e1:(cur.toList.take (i*sz)).length=i*sz:=by rw[List.length_take,hcl];omega
   rw[hrow,Nat.add_zero,List.append_assoc,List.take_append_of_le_length (by rw[e1];exact nR _),List.take_take,Nat.min_self]
  have:=Os.mk (f:=f) (xs:=xs.take i) (c:=c) hg (setRow_heap w g cur row T (0,0) hh) (by omega) hm hrz hf (by rw[hlen,hrt,Pz hf,<-hxs,List.take_take,Nat.min_eq_left (by rw[<-hl];omega)]);rw[hlen] at this;exact this
end
def Gives {α:Type} (f:α->List Value) (sz:Nat) (T:TypeId) (base:Nat) (w:World) (ys:List α) (e:Ending) (w':World):Prop:=∃v,e=.returned v/\Os f sz T w' base v ys/\Below base w w'
structure qH {α:Type} (p:α->Bool) (xs:List α) (i j:Nat) (ys:List α):Prop where
 len:ys.length=xs.length
 lt:i<j
 le:j<=xs.length
 had:ys.take i=(xs.take j).filter λx=> !p x
 rest:ys.drop j=xs.drop j
theorem qH.start {α:Type} {p:α->Bool} {xs:List α} {x:α} (h:xs[xs.findIdx p]? =some x):qH p xs (xs.findIdx p) (xs.findIdx p+1) xs:=by
 have hl:=(List.getElem?_eq_some_iff.1 h).1;refine⟨rfl,by omega,by omega,?_,rfl⟩;rw[List.take_succ_eq_append_getElem hl,List.filter_append];have e1:(xs.take (xs.findIdx p)).filter (λx=> !p x)=xs.take (xs.findIdx p):=by
  rw[List.filter_eq_self];intro y hy;obtain⟨i,hi,rfl⟩:=List.mem_iff_getElem.1 hy;have hi':i<xs.findIdx p:=by simp at hi;omega
  have:=List.not_of_lt_findIdx hi';simpa using this
 have e2:p xs[xs.findIdx p]=true:=List.findIdx_getElem (w:=hl);rw[e1];simp[e2]
theorem qH.at_ {α:Type} {p:α->Bool} {xs ys:List α} {i j:Nat} {x:α} (h:qH p xs i j ys) (hx:xs[j]? =some x):ys[j]? =some x:=by
 have:=congrArg (λl=>l[0]?) h.rest;simp only[List.getElem?_drop,Nat.add_zero] at this;rw[this,hx]
theorem qH.skip {α:Type} {p:α->Bool} {xs ys:List α} {i j:Nat} {x:α} (h:qH p xs i j ys) (hx:xs[j]? =some x) (hp:p x=true):qH p xs i (j+1) ys:=by
 have hl:=(List.getElem?_eq_some_iff.1 hx).1;have hx':=(List.getElem?_eq_some_iff.1 hx).2;have:=h.lt;refine⟨h.len,by omega,by omega,?_,?_⟩
 ·rw[List.take_succ_eq_append_getElem hl,List.filter_append,h.had,hx'];simp[hp]
 ·rw[<-List.drop_drop,<-List.drop_drop,h.rest]
theorem qH.keep {α:Type} {p:α->Bool} {xs ys:List α} {i j:Nat} {x:α} (h:qH p xs i j ys) (hx:xs[j]? =some x) (hp:p x=false):qH p xs (i+1) (j+1) (ys.set i x):=by
 have hl:=(List.getElem?_eq_some_iff.1 hx).1;have hx':=(List.getElem?_eq_some_iff.1 hx).2;have h1:=h.lt;have h2:=h.len;refine⟨by simp[h2],by omega,by omega,?_,?_⟩
 ·have hi:i<(ys.set i x).length:=by simp;omega
  rw[List.take_succ_eq_append_getElem hi,List.take_set_of_le (nR _),h.had,List.take_succ_eq_append_getElem hl,List.filter_append,hx'];simp[hp]
 ·rw[List.drop_set_of_lt (by omega),<-List.drop_drop,<-List.drop_drop,h.rest]
theorem qH.done {α:Type} {p:α->Bool} {xs ys:List α} {i:Nat} (h:qH p xs i xs.length ys):ys.take i=xs.filter λx=> !p x:=by
 have:=h.had;rwa[List.take_length] at this
theorem filter_none {α:Type} {p:α->Bool} {xs:List α} (h:¬xs.findIdx p<xs.length):(xs.filter λx=> !p x)=xs:=by
 rw[List.filter_eq_self];intro y hy;have:¬∃x,x∈xs/\p x=true:=λ⟨x,h1,h2⟩=>h (List.findIdx_lt_length.2 ⟨x,h1,h2⟩);cases hp:p y with
 |false=>rfl
 |true=>exact absurd ⟨y,hy,hp⟩ this
theorem below_drewN (B:Nat) (w:World) (k:Nat):Below B w (w.drewN k):=⟨rfl,rfl,rfl,nR _,λ_ _=>rfl⟩
end
end Go.Proofs.YtoogfmbojlpjaaaGreat
