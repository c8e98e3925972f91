/- Lemmas. -/
import Derived.Test.YtoogfmbojlpjaaaGreatQ10
import Derived.StillTail
import Derived.Test.YtoogfmbojlpjaaaGreatQA
set_option maxRecDepth 100000
set_option maxHeartbeats 32000000
set_option linter.unusedVariables false
set_option linter.unusedSimpArgs false
namespace Go.Proofs.YtoogfmbojlpjaaaGreat
open Go Go.RowKit
section
section
variable {P:Program}
def aFY (P:Program) (ops:Array Oper) (Q:Exit->Act->World->Prop) (tail:List Oper):Exit->Act->World->Prop
 | .normal=>wpList P ops Q tail
 |e=>Q e
theorem aEY {o:Oper} {a:Act} {next:Act->World->Prop} {Q Q':Exit->Act->World->Prop} (hp:∀c,Q (.panic c)=Q' (.panic c)) (ho:Q .outgrown=Q' .outgrown) {r:Result Next} (h:Oper.upon P o a next Q r):Oper.upon P o a next Q' r:=by
 have hl:LetsOut Q->LetsOut Q':=λ⟨a,w,h⟩=>⟨a,w,by rw[<-ho];exact h⟩;cases r with
 |ok n w'=>
  cases n with
  |enter f args=>
   refine Calls.mono h λe w'' h=> ?_;cases e with
   |returned v=>exact h
   |panicked c=>
    have h':Q (Exit.panic c) a w'':=h;rw[hp c] at h';exact h'
   |outgrown=>exact hl h
  |value v=>exact h
  |skip=>exact h
  |defer d=>exact h
  |row row args=>exact h
  |_=>exact h.elim
 |halt x w'=>
  cases x with
  |panic v=>
   have h':Q (Exit.panic [{ v:=v,recovered:=false }]) a w':=h;rw[hp] at h';exact h'
  |_=>exact h.elim
theorem Cu {ops:Array Oper} {md:Region.Mode} {Q':Exit->Act->World->Prop} (x:Nat):∀(l:List Oper) (k:Nat) (listed:Array Bool) (a:Act) (w:World),(∀j,l[j]? =ops[k+j]?)->
 Region.seqB md ops l.length k listed=true->wpList P ops Q' l a w->wpAny P md ops Q' (x+l.length) listed a w
 | [],_,listed,a,w,_,hB,h=>by
   have hr:Region.ready md ops listed=[]:=by simpa[Region.seqB] using hB
   cases x with
   |zero=>exact⟨hr,h⟩
   |succ x=>exact⟨λ_=>h,λi hi=>by rw[hr] at hi;cases hi⟩
 |o::l,k,listed,a,w,hl,hB,h=>by
  have h0:ops[k]? =some o:=by simpa using(hl 0).symm
  simp only[List.length_cons,Region.seqB,Bool.and_eq_true,decide_eq_true_eq] at hB;show wpAny P md ops Q' ((x+l.length)+1) listed a w;refine⟨λh1=>(by rw[hB.1] at h1;cases h1),λi hi=> ?_⟩;rw[hB.1] at hi;have hik:i=k:=by simpa using hi
  subst hik;have hw:wpOp P ops Q' i (wpList P ops Q' l) a w:=by unfold wpOp;simp only[h0];exact h
  exact wpOp_mono (λa' w' h'=>Cu x l (i+1) _ a' w' (λj=>by have:=hl (j+1);simpa[Nat.add_assoc,Nat.add_comm 1 j] using this) hB.2 h') hw
def Bh (l:List Oper) (n:Nat):Bool:=
 decide (n<l.length)&&Region.sinkB .any l.toArray n&&Region.chainB .any l.toArray n&&Region.seqB .any l.toArray (l.length -n) n ((Array.replicate n true)++Array.replicate (l.length -n) false)&&
 (l.take n).all λo=>match o.guard with|none=>true|some (g,_)=>decide (g<n)
theorem Jc {l:List Oper} {n i:Nat} (hi:i<n):(l.take n).toArray[i]? =l.toArray[i]? :=by
 simp[hi]
theorem aDv {l:List Oper} {n:Nat} {o:Oper} {tmps:Array Value} (hg:(match o.guard with|none=>true|some (g,_)=>decide (g<n))=true):
 Region.wanted o (yielded (l.take n).toArray tmps)=Region.wanted o (yielded l.toArray tmps):=by
 unfold Region.wanted;cases h:o.guard with
 |none=>rfl
 |some gw=>
  obtain⟨g,want⟩:=gw;rw[h] at hg;simp only[decide_eq_true_eq] at hg;simp only[yielded,Jc hg]
structure aDn (n:Nat) (LH LO:Array Bool):Prop where
 size:LH.size=n
 same:∀i,i<n->LH[i]? =LO[i]?
theorem Tc {l:List Oper} {n:Nat} {T:List (List Nat)} {Q:Exit->Act->World->Prop} (ok:pF (l.take n).toArray T) (hT:Bh l n=true):
 ∀(f:Nat) (LH LO:Array Bool) (a:Act) (w:World),aDn n LH LO->HeadInv .any l.toArray n LO->
 wpAny P .any (l.take n).toArray (aFY P l.toArray Q (l.drop n)) f LH a w->wpAny P .any l.toArray Q (f+(l.length -n)) LO a w:=by
 simp only[Bh,Bool.and_eq_true,decide_eq_true_eq] at hT;obtain⟨⟨⟨⟨hn,hs⟩,hc⟩,hq⟩,hg⟩:=hT;have hhs:(l.take n).toArray.size=n:=by simp;omega
 have hguard:∀i o,i<n->(l.take n).toArray[i]? =some o->(match o.guard with|none=>true|some (g,_)=>decide (g<n))=true:=λi o hi ho=>by
  refine List.all_eq_true.1 hg o ?_;exact List.mem_of_getElem? (by simpa using ho)
 have rdy:∀(LH LO:Array Bool),aDn n LH LO->∀i,i<n->(i∈Region.ready .any (l.take n).toArray LH↔i∈Region.ready .any l.toArray LO):=λLH LO ht i hi=>by
  have hget:∀j,j<n->∀d,LH.getD j d=LO.getD j d:=λj hj d=>by
   simp only[Array.getD_eq_getD_getElem?,ht.same j hj]
  rw[mem_ready,mem_ready,Jc hi,hget i hi];refine and_congr Iff.rfl ⟨?_,?_⟩
  ·rintro⟨o,ho,h⟩
   exact⟨o,ho,λe he hb=>by rw[<-hget e.on (by have:=(ok.edge i o (by rw[Jc hi];exact ho) e he hb).1;omega)];exact h e he hb⟩
  ·rintro⟨o,ho,h⟩
   exact⟨o,ho,λe he hb=>by rw[hget e.on (by have:=(ok.edge i o (by rw[Jc hi];exact ho) e he hb).1;omega)];exact h e he hb⟩
 have fin:∀(f:Nat) (LH LO:Array Bool) (a:Act) (w:World),aDn n LH LO->HeadInv .any l.toArray n LO->Region.ready .any (l.take n).toArray LH=[]->wpList P l.toArray Q (l.drop n) a w->wpAny P .any l.toArray Q (f+(l.length -n)) LO a w:=λf LH LO a w ht inv hr h=>by
  have hall:=λj (hj:j<n)=>zB ok (by rw[hhs,ht.size]) hr n j hj (by rw[hhs];exact hj);have hLO:LO=(Array.replicate n true)++Array.replicate (l.length -n) false:=by
   apply Array.ext_getElem?;intro i;have hsz:LO.size=l.length:=by rw[inv.size];simp
   by_cases hi:i<n
   ·have h1:=hall i hi
    rw[Array.getD_eq_getD_getElem?,ht.same i hi,Array.getElem?_eq_getElem (by omega)] at h1;rw[Array.getElem?_append_left (by simp;omega),Array.getElem?_eq_getElem (by omega)];simp only[Option.getD_some] at h1;rw[h1];simp[hi]
   ·by_cases hi2:i<l.length
    ·have h1:=inv.tail i (by omega) (by simpa using hi2)
     have h2:LO[i]? =some false:=by
      rw[Array.getD_eq_getD_getElem?,Array.getElem?_eq_getElem (by omega)] at h1;simp only[Option.getD_some] at h1;rw[Array.getElem?_eq_getElem (by omega),h1]
     rw[h2,Array.getElem?_append_right (by simp;omega),Array.getElem?_replicate,if_pos (by simp;omega)]
    ·rw[Array.getElem?_eq_none (by omega),Array.getElem?_eq_none (by simp;omega)]
  rw[hLO];have:=Cu (P:=P) (ops:=l.toArray) (md:=.any) (Q':=Q) f (l.drop n) n _ a w (λj=>by simp[List.getElem?_drop]) (by rw[List.length_drop];exact hq) h;rwa[List.length_drop] at this
 have stp:∀(LH LO:Array Bool),aDn n LH LO->HeadInv .any l.toArray n LO->Region.ready .any (l.take n).toArray LH≠ []->∀i∈Region.ready .any l.toArray LO,i<n:=λLH LO ht inv hne i hi=>by
  rcases Nat.lt_or_ge i n with h|h
  ·exact h
  ·obtain⟨j,hj⟩:=List.exists_mem_of_ne_nil _ hne
   obtain⟨hjl,o,ho,_⟩:=mem_ready.1 hj;have hjn:j<n:=by have:=(Array.getElem?_eq_some_iff.1 ho).1;omega
   rw[Array.getD_eq_getD_getElem?,ht.same j hjn,<-Array.getD_eq_getD_getElem?] at hjl;exact absurd hi (tail_waits hs hc (by simpa using hn) inv _ j rfl hjn hjl i h)
 intro f
 induction f with
 |zero=>
  rintro LH LO a w ht inv ⟨hr,h⟩;exact fin 0 LH LO a w ht inv hr h
 |succ f ih=>
  rintro LH LO a w ht inv ⟨h1,h2⟩;by_cases hr:Region.ready .any (l.take n).toArray LH=[]
  ·exact fin (f+1) LH LO a w ht inv hr (h1 hr)
  ·rw[show f+1+(l.length -n)=(f+(l.length -n))+1 by omega]
   have hr':Region.ready .any l.toArray LO≠ []:=by
    obtain⟨j,hj⟩:=List.exists_mem_of_ne_nil _ hr;obtain⟨_,o,ho,_⟩:=mem_ready.1 hj;have hjn:j<n:=by have:=(Array.getElem?_eq_some_iff.1 ho).1;omega
    exact List.ne_nil_of_mem ((rdy LH LO ht j hjn).1 hj)
   refine⟨λh=>absurd h hr',λi hi=> ?_⟩;have hin:=stp LH LO ht inv hr i hi;have h3:=h2 i ((rdy LH LO ht i hin).2 hi);have aO0:i<LO.size:=by rw[inv.size];simp;omega
   have ht':aDn n (LH.setIfInBounds i true) (LO.setIfInBounds i true):=⟨by rw[Array.size_setIfInBounds];exact ht.size,λj hj=>by
    by_cases e:i=j
    ·subst e
     rw[Array.getElem?_setIfInBounds_self_of_lt (by rw[ht.size];exact hj),Array.getElem?_setIfInBounds_self_of_lt aO0]
    ·rw[Array.getElem?_setIfInBounds_ne e,Array.getElem?_setIfInBounds_ne e];exact ht.same j hj⟩
   have hK:=λa' w' h=>ih (LH.setIfInBounds i true) (LO.setIfInBounds i true) a' w' ht' (inv.set hi hin) h;obtain⟨o,ho⟩:∃o,(l.take n).toArray[i]? =some o:=⟨_,Array.getElem?_eq_getElem (by rw[hhs];exact hin)⟩;have ho':l.toArray[i]? =some o:=by rw[<-Jc hin];exact ho
   unfold wpOp at h3⊢;rw[ho] at h3;rw[ho'];simp only at h3⊢;rw[aDv (hguard i o hin ho)] at h3;split at h3
   ·next hw=>
    rw[if_pos hw];rcases h3 with h3|⟨h3,h4⟩
    ·left
     unfold Oper.wp at h3⊢;have h5:=aEY (P:=P) (Q':=Q) (λc=>rfl) rfl h3;exact Oper.wp_mono hK h5
    ·right
     obtain⟨a',w',h4⟩:=h4;exact⟨h3,a',w',h4⟩
   ·next hw=>
    rw[if_neg hw];exact hK _ _ h3
theorem mI {id:Nat} {Q:Exit->Act->World->Prop} {a:Act} {w:World} {l:List Oper} (n:Nat) (S:List Sp) (hm:P.follows .mixedOrders=true) (hB:yF (l.take n).toArray (ahead (l.take n).toArray (l.take n).length)=true) (hT:Bh l n=true)
 (h:∀V:Nat->Value,(∀k,shapeOf S k (V k))->fQ P (l.take n).toArray (ahead (l.take n).toArray (l.take n).length) S w V (λa w=>wpList P l.toArray Q (l.drop n) a w) (l.take n) 0 [] a):(Code.region id l.toArray true).wp P Q a w:=by
 have ok:=En hB;have hn:n<l.length:=by
  have Jd:=hT;simp only[Bh,Bool.and_eq_true,decide_eq_true_eq] at Jd;exact Jd.1.1.1.1
 have hln:(l.take n).length=n:=by simp;omega
 refine wp_region_any hm ?_;have hr:∀m j:Nat,(Array.replicate m false).getD j false=false:=λm j=>by
  simp only[Array.getD_eq_getD_getElem?,Array.getElem?_replicate];split<;>rfl
 have H:=Xx (P:=P) (ops:=(l.take n).toArray) (Qe:=aFY P l.toArray Q (l.drop n)) (S:=S) (w0:=w) (a0:=a) ok (λV hV=>Kz (l.take n) 0 [] (λ_=>undef) (by simp) (by simp) (λp hp=>by cases hp) (λj o hj=>by omega) (h V hV)) n
  (Array.replicate n false) (λ_=>undef) a { w with drawn:=w.drawn+1 } (by simp;omega) (by
    have:=List.countP_le_length (p:=λi=> !(Array.replicate n false).getD i false) (l:=List.range (l.take n).toArray.size);simp at this⊢;omega) ?_
 ·have:=Tc (P:=P) (Q:=Q) ok hT n (Array.replicate n false) (Array.replicate l.toArray.size false) a { w with drawn:=w.drawn+1 } ⟨by simp,λi hi=>by rw[Array.getElem?_replicate,Array.getElem?_replicate,if_pos hi,if_pos (by simp;omega)]⟩
   ⟨by simp,λj oj _ hl=>(by rw[hr] at hl;cases hl),λt _ ht=>getD_in (by simpa using ht) (hr _ _)⟩ H
  rwa[show n+(l.length -n)=l.toArray.size by simp;omega] at this
 ·have hno:∀j,¬((Array.replicate n false).getD j false=true):=λj hj=>by rw[hr] at hj;cases hj
  exact⟨⟨rfl,rfl,rfl,nR _,λ_ _=>rfl⟩,λj hj=>absurd hj (hno j),rfl,rfl,λ_ _=>rfl,λj hj=>absurd hj (hno j),λj hj=>absurd hj (hno j),λj hj=>absurd hj (hno j)⟩
end
end
end Go.Proofs.YtoogfmbojlpjaaaGreat
