/- Lemmas. -/
import Derived.Test.YtoogfmbojlpjaaaGreatQ7
import Derived.Test.YtoogfmbojlpjaaaGreatQ1
import Derived.Laws.StructEq
import Derived.Test.YtoogfmbojlpjaaaGreatQA
set_option maxRecDepth 100000
set_option maxHeartbeats 32000000
set_option linter.unusedVariables false
set_option linter.unusedSimpArgs false
namespace Go.Proofs.YtoogfmbojlpjaaaGreat
open Go.ChangeShapes Go.WideShapes Go.ChangeAt Go.RowKit Go.Joins
structure eY where
 r:Int
 k:Int
 g:Bool
 s:Bool
instance:Inhabited eY:=⟨⟨0,0,false,false⟩⟩
structure aC where
 f:Int
 t:Int
 a:eY
instance:Inhabited aC:=⟨⟨0,0,default⟩⟩
def zM (a b:eY):Bool:=a.r==b.r&&a.k==b.k&&a.g==b.g&&a.s==b.s
theorem aEC {a b:eY} :zM a b=true↔a=b:=by
 obtain⟨a1,a2,a3,a4⟩:=a;obtain⟨b1,b2,b3,b4⟩:=b;simp[zM,and_assoc]
def fR (x:aC):List Value:=[.int .i64 x.f,.int .i64 x.t,.int .i64 x.a.r,.int .i64 x.a.k,.bool x.a.g,.bool x.a.s]
theorem gZ (x:aC):(fR x).length=6:=rfl
theorem Rm (x:aC):∀u∈fR x,u.oneCell'=true:=by
 intro u hu;simp[fR] at hu;rcases hu with rfl|rfl|rfl|rfl|rfl|rfl<;>rfl
theorem aCo:(Tryz.prog.info? 99).map (λi=>(i.zero,i.size,i.bytes))=some (some (.agg #[.int .i64 0,.int .i64 0,.int .i64 0,.int .i64 0,.bool false,.bool false]),6,40):=by kernel_rfl
theorem aIq (d:Nat) (a0 a1 b0 b1:Int) (a2 a3 b2 b3:Bool) (w:World):(Op.equalIn (d+2) 97 (.agg #[.int .i64 a0,.int .i64 a1,.bool a2,.bool a3]) (.agg #[.int .i64 b0,.int .i64 b1,.bool b2,.bool b3])).run Tryz.prog w=.ok (a0==b0&&a1==b1&&a2==b2&&a3==b3) w:=by
 by_cases h0:a0=b0<;>by_cases h1:a1=b1<;>by_cases h2:a2=b2<;>by_cases h3:a3=b3<;>simp[go_sem,Tryz.underlying97,Tryz.underlying3,Tryz.underlying4,h0,h1,h2,h3]
theorem aD7 (x y:eY) (w:World):(Op.equalIn 10000 97 (.agg #[.int .i64 x.r,.int .i64 x.k,.bool x.g,.bool x.s]) (.agg #[.int .i64 y.r,.int .i64 y.k,.bool y.g,.bool y.s])).run Tryz.prog w=.ok (zM x y) w:=aIq 9998 _ _ _ _ _ _ _ _ w
end Go.Proofs.YtoogfmbojlpjaaaGreat
namespace Go.Proofs.YtoogfmbojlpjaaaGreat
def zJ (x:aC):Bool:=decide (0<=x.f)&&decide (x.t<=64)&&decide (x.f<x.t)
def kF (p x:aC):Bool:=!(decide (x.f<p.t)||(p.t==x.f&&zM p.a x.a))
def jG:Option aC->List aC->Bool
 |_,[]=>true
 |p,x::l=>zJ x&&(match p with|none=>true|some p=>kF p x)&&jG (some x) l
def bF (l:List aC):Bool:=jG none l
theorem V7:∀(l:List aC) (q:Option aC) (k:Nat) (x:aC),l[k]? =some x->(zJ x=false\/∃p,(if k=0 then q else l[k -1]?)=some p/\kF p x=false)->jG q l=false
 | [],_,_,_,h,_=>by simp at h
 |y::l,q,0,x,h,h2=>by
  simp at h;subst h;unfold jG;rcases h2 with h2|⟨p,hp,h2⟩
  ·rw[h2];rfl
  ·rw[if_pos rfl] at hp
   subst hp;simp[h2]
 |y::l,q,k+1,x,h,h2=>by
  unfold jG;rw[V7 l (some y) k x (by simpa using h) (h2.imp id λ⟨p,hp,h3⟩=>⟨p,by
   rw[if_neg (by omega),Nat.add_sub_cancel] at hp;cases k with
   |zero=>simpa using hp
   |succ k=>simpa using hp,h3⟩),Bool.and_false]
theorem Sb:∀(l:List aC) (q:Option aC),(∀k x,k<l.length->l[k]? =some x->zJ x=true/\∀p,(if k=0 then q else l[k -1]?)=some p->kF p x=true)->jG q l=true
 | [],_,_=>rfl
 |y::l,q,h=>by
  unfold jG;have h0:=h 0 y (by simp) rfl;rw[h0.1,Sb l (some y) λk x hk hx=> ?_]
  ·cases q with
   |none=>rfl
   |some p=>
    have:=h0.2 p rfl;simp[this]
  ·have h1:=h (k+1) x (by simpa using hk) (by simpa using hx)
   refine⟨h1.1,λp hp=>h1.2 p ?_⟩;rw[if_neg (by omega),Nat.add_sub_cancel];cases k with
   |zero=>simpa using hp
   |succ k=>simpa using hp
def Ib (a b:Int) (x:aC):List aC:=(if x.f<min x.t a then [⟨x.f,min x.t a,x.a⟩] else [])++(if max x.f b<x.t then [⟨max x.f b,x.t,x.a⟩] else [])
def Ww (a b:Int) (x:aC):List aC:=if max x.f a<min x.t b then [⟨max x.f a,min x.t b,x.a⟩] else []
def gV (a b:Int) (l:List aC):List aC:=l.flatMap (Ib a b)
def fA (a b:Int) (l:List aC):List aC:=l.flatMap (Ww a b)
theorem aG1 (a b:Int) (l:List aC) (x:aC):gV a b (l++ [x])=gV a b l++Ib a b x:=by simp[gV]
theorem aIV (a b:Int) (l:List aC) (x:aC):fA a b (l++ [x])=fA a b l++Ww a b x:=by simp[fA]
theorem aIB (a b:Int) (x:aC):(Ib a b x).length<=2:=by unfold Ib;split<;>split<;>simp
theorem aLB (a b:Int) (x:aC):(Ww a b x).length<=1:=by unfold Ww;split<;>simp
theorem r9 {xs:List aC} {k:Nat} {x:aC} (h:xs[k]? =some x):xs.take (k+1)=xs.take k++ [x]:=by
 have hl:=(List.getElem?_eq_some_iff.1 h).1;rw[List.take_succ_eq_append_getElem hl,(List.getElem?_eq_some_iff.1 h).2]
def vQ (l:List aC):Prop:=l.Pairwise (λa b=>a.f<=b.f)
def stepJ (out:List aC) (x:aC):List aC:=match out.getLast? with|some p=>if p.t==x.f&&zM p.a x.a then out.dropLast++ [⟨p.f,x.t,p.a⟩] else out++ [x]|none=>[x]
def joinL (l:List aC):List aC:=l.foldl stepJ []
theorem aFp (l:List aC) (x:aC):joinL (l++ [x])=stepJ (joinL l) x:=by unfold joinL;rw[List.foldl_append];rfl
theorem aGE (x:aC):stepJ [] x=[x]:=rfl
theorem Ud {q:List aC} {p x:aC} (h:(p.t==x.f&&zM p.a x.a)=false):stepJ (q++ [p]) x=q++ [p]++ [x]:=by unfold stepJ;simp[h]
theorem N9 {q:List aC} {p x:aC} (h:(p.t==x.f&&zM p.a x.a)=true):stepJ (q++ [p]) x=q++ [⟨p.f,x.t,p.a⟩]:=by
 unfold stepJ;simp only[List.getLast?_append,List.getLast?_singleton,Option.some_or,h,if_true,List.dropLast_concat]
theorem aGF (out:List aC) (x:aC):(stepJ out x).length<=out.length+1:=by
 rcases List.eq_nil_or_concat out with rfl|⟨q,p,rfl⟩
 ·simp[aGE]
 ·rw[List.concat_eq_append]
  cases h:(p.t==x.f&&zM p.a x.a) with
  |true=>rw[N9 h];simp
  |false=>rw[Ud h];simp
theorem aAF:∀(l out:List aC),(l.foldl stepJ out).length<=out.length+l.length
 | [],out=>by simp
 |x::l,out=>by
  have:=aAF l (stepJ out x);have:=aGF out x;simp only[List.foldl_cons,List.length_cons];omega
theorem aHf (l:List aC):(joinL l).length<=l.length:=by have:=aAF l [];simpa[joinL] using this
def Be:aC->List aC->List aC
 |p,[]=>[p]
 |p,x::l=>if p.t==x.f&&zM p.a x.a then Be ⟨p.f,x.t,p.a⟩ l else p::Be x l
theorem Lg:∀(l q:List aC) (p:aC),l.foldl stepJ (q++ [p])=q++Be p l
 | [],q,p=>rfl
 |x::l,q,p=>by
  rw[List.foldl_cons];unfold Be;cases h:(p.t==x.f&&zM p.a x.a) with
  |true=>rw[N9 h,Lg l q ⟨p.f,x.t,p.a⟩];rfl
  |false=>rw[Ud h,Lg l (q++ [p]) x,List.append_assoc];rfl
theorem Wu (x:aC) (l:List aC):joinL (x::l)=Be x l:=Lg l [] x
def Asc:Int->List aC->Prop
 |_,[]=>True
 |b,x::l=>b<=x.f/\x.f<x.t/\x.t<=64/\Asc x.t l
theorem Asc.mem:∀ {l:List aC} {b:Int},Asc b l->∀x∈l,b<=x.f/\x.f<x.t/\x.t<=64
 | [],_,_,_,h=>by cases h
 |y::l,b,h,x,hx=>by
  obtain⟨h1,h2,h3,h4⟩:=h;rcases List.mem_cons.1 hx with rfl|hx
  ·exact⟨h1,h2,h3⟩
  ·have:=Asc.mem h4 x hx;omega
theorem Qh:∀(l:List aC) (q:Option aC) (b:Int),jG q l=true->(∀p,q=some p->b<=p.t)->(q=none->b<=0)->Asc b l
 | [],_,_,_,_,_=>trivial
 |x::l,q,b,h,hq,hn=>by
  unfold jG at h;simp only[Bool.and_eq_true] at h;obtain⟨⟨h1,h2⟩,h3⟩:=h;unfold zJ at h1;simp only[Bool.and_eq_true,decide_eq_true_eq] at h1;refine⟨?_,by omega,by omega,Qh l (some x) x.t h3 (λp hp=>by cases hp;exact Int.le_refl _) (λh=>by cases h)⟩;cases q with
  |none=>have:=hn rfl;omega
  |some p=>
   have:=hq p rfl;simp[kF] at h2;omega
theorem sI {l:List aC} (h:bF l=true):Asc 0 l:=Qh l none 0 h (λp hp=>by cases hp) (λ_=>Int.le_refl _)
def Has (l:List aC) (p:Int) (a:eY):Prop:=∃x∈l,x.f<=p/\p<x.t/\x.a=a
theorem Ah {p:Int} {a:eY} :¬Has [] p a:=λ⟨_,h,_⟩=>by cases h
theorem lY {x:aC} {l:List aC} {p:Int} {a:eY} :Has (x::l) p a↔(x.f<=p/\p<x.t/\x.a=a)\/Has l p a:=by
 constructor
 ·rintro⟨y,hy,h⟩
  rcases List.mem_cons.1 hy with rfl|hy
  ·exact .inl h
  ·exact .inr ⟨y,hy,h⟩
 ·rintro(h|⟨y,hy,h⟩)
  ·exact⟨x,List.mem_cons_self,h⟩
  ·exact⟨y,List.mem_cons_of_mem _ hy,h⟩
theorem Dv {l m:List aC} {p:Int} {a:eY} :Has (l++m) p a↔Has l p a\/Has m p a:=by
 constructor
 ·rintro⟨y,hy,h⟩
  rcases List.mem_append.1 hy with hy|hy
  ·exact .inl ⟨y,hy,h⟩
  ·exact .inr ⟨y,hy,h⟩
 ·rintro(⟨y,hy,h⟩|⟨y,hy,h⟩)
  ·exact⟨y,List.mem_append_left _ hy,h⟩
  ·exact⟨y,List.mem_append_right _ hy,h⟩
theorem aCD {l m:List aC} (h:l.Perm m) {p:Int} {a:eY} :Has l p a↔Has m p a:=
 ⟨λ⟨y,hy,h2⟩=>⟨y,h.mem_iff.1 hy,h2⟩,λ⟨y,hy,h2⟩=>⟨y,h.mem_iff.2 hy,h2⟩⟩
theorem Asc.has {l:List aC} {b p:Int} {a:eY} (h:Asc b l) (h2:Has l p a):b<=p:=by
 obtain⟨x,hx,h3,_⟩:=h2;have:=h.mem x hx;omega
theorem aCC {x:aC} {l:List aC} {b:Int} (h:Asc b (x::l)) {p:Int} {a:eY} :Has l p a↔Has (x::l) p a/\x.t<=p:=by
 constructor
 ·intro h2
  exact⟨lY.2 (.inr h2),h.2.2.2.has h2⟩
 ·rintro⟨h2,h3⟩
  rcases lY.1 h2 with h2|h2
  ·omega
  ·exact h2
theorem aCy {x y:aC} {l m:List aC} {b c:Int} (hx:Asc b (x::l)) (hr:jG (some x) l=true) (hy:Asc c (y::m)) (hf:x.f=y.f) (ha:x.a=y.a) (he:∀p a,Has (y::m) p a->Has (x::l) p a):y.t<=x.t:=by
 rcases Int.lt_or_le x.t y.t with hlt|h
 ·obtain⟨x1,x2,x3,x4⟩:=hx
  have h1:=he x.t y.a ⟨y,List.mem_cons_self,by omega,by omega,rfl⟩;rcases lY.1 h1 with h1|h1
  ·omega
  ·exfalso
   match l,x4,hr,h1 with
   | [],_,_,h1=>exact Ah h1
   |z::l,x4,hr,h1=>
    obtain⟨z1,z2,z3,z4⟩:=x4;rcases lY.1 h1 with⟨g1,g2,g3⟩|h1
    ·unfold jG at hr
     have e1:x.t=z.f:=by omega
     have e2:x.a=z.a:=by rw[ha,g3]
     simp[kF,e1,aEC.2 e2] at hr
    ·have:=z4.has h1;omega
 ·exact h
theorem Om:∀(l m:List aC) (q r:Option aC) (b c:Int),jG q l=true->jG r m=true->Asc b l->Asc c m->(∀p a,Has l p a↔Has m p a)->l=m
 | [],[],_,_,_,_,_,_,_,_,_=>rfl
 | [],y::m,_,_,_,_,_,_,_,hm,h=>absurd ((h y.f y.a).2 ⟨y,List.mem_cons_self,Int.le_refl _,hm.2.1,rfl⟩) Ah
 |x::l,[],_,_,_,_,_,_,hl,_,h=>absurd ((h x.f x.a).1 ⟨x,List.mem_cons_self,Int.le_refl _,hl.2.1,rfl⟩) Ah
 |x::l,y::m,q,r,b,c,rl,rm,hl,hm,h=>by
  unfold jG at rl rm;simp only[Bool.and_eq_true] at rl rm;have hl':=hl;have hm':=hm;obtain⟨l1,l2,l3,l4⟩:=hl;obtain⟨m1,m2,m3,m4⟩:=hm;have hf:x.f=y.f:=by
   have h1:y.f<=x.f:=by
    rcases lY.1 ((h x.f x.a).1 ⟨x,List.mem_cons_self,Int.le_refl _,l2,rfl⟩) with g|g
    ·exact g.1
    ·have:=m4.has g;omega
   have h2:x.f<=y.f:=by
    rcases lY.1 ((h y.f y.a).2 ⟨y,List.mem_cons_self,Int.le_refl _,m2,rfl⟩) with g|g
    ·exact g.1
    ·have:=l4.has g;omega
   omega
  have ha:x.a=y.a:=by
   rcases lY.1 ((h x.f x.a).1 ⟨x,List.mem_cons_self,Int.le_refl _,l2,rfl⟩) with g|g
   ·exact g.2.2.symm
   ·have:=m4.has g;omega
  have ht:x.t=y.t:=by
   have h1:=aCy hl' rl.2 hm' hf ha λp a=>(h p a).2;have h2:=aCy hm' rm.2 hl' hf.symm ha.symm λp a=>(h p a).1;omega
  have e:x=y:=by
   obtain⟨x1,x2,x3⟩:=x;obtain⟨y1,y2,y3⟩:=y;simp only at hf ha ht;rw[hf,ha,ht]
  subst e;rw[Om l m (some x) (some x) x.t x.t rl.2 rm.2 l4 m4 λp a=>by rw[aCC hl',aCC hm',h p a]]
theorem right_eq {l m:List aC} (hl:bF l=true) (hm:bF m=true) (h:∀p a,Has l p a↔Has m p a):l=m:=
 Om l m none none 0 0 hl hm (sI hl) (sI hm) h
theorem aDE (q p:aC) (t:Int):kF q ⟨p.f,t,p.a⟩=kF q p:=rfl
theorem Ii:∀(l:List aC) (p:aC) (q:Option aC),0<=p.f->p.f<p.t->p.t<=64->Asc p.t l->(∀r,q=some r->kF r p=true)->jG q (Be p l)=true
 | [],p,q,h0,h1,h2,_,hq=>by
   unfold Be jG jG;have:zJ p=true:=by unfold zJ;simp;omega
   cases q with
   |none=>simp[this]
   |some r=>simp[this,hq r rfl]
 |x::l,p,q,h0,h1,h2,h3,hq=>by
  obtain⟨x1,x2,x3,x4⟩:=h3;unfold Be;cases h:(p.t==x.f&&zM p.a x.a) with
  |true=>
   simp only[if_true];exact Ii l ⟨p.f,x.t,p.a⟩ q h0 (by simp only;omega) x3 x4 λr hr=>by rw[aDE];exact hq r hr
  |false=>
   simp only[Bool.false_eq_true,if_false];unfold jG;have h4:kF p x=true:=by unfold kF;rw[h];simp;omega
   have h5:zJ p=true:=by unfold zJ;simp;omega
   rw[Ii l x (some p) (by omega) x2 x3 x4 (λr hr=>by cases hr;exact h4),h5];cases q with
   |none=>simp
   |some r=>simp[hq r rfl]
theorem Pb:∀(l:List aC) (p:aC) (b:Int),Asc b (p::l)->∀n a,Has (Be p l) n a↔Has (p::l) n a
 | [],p,_,_,n,a=>Iff.rfl
 |x::l,p,b,h,n,a=>by
  obtain⟨p1,p2,p3,x1,x2,x3,x4⟩:=h;unfold Be;cases h:(p.t==x.f&&zM p.a x.a) with
  |true=>
   simp only[if_true];rw[Pb l ⟨p.f,x.t,p.a⟩ b ⟨p1,by simp only;omega,x3,x4⟩,lY,lY,lY];simp only[Bool.and_eq_true,beq_iff_eq,aEC] at h;obtain⟨e1,e2⟩:=h;constructor
   ·rintro(⟨g1,g2,g3⟩|g)
    ·simp only at g1 g2 g3
     by_cases hn:n<p.t
     ·exact .inl ⟨g1,hn,g3⟩
     ·exact .inr (.inl ⟨by omega,g2,by rw[<-e2];exact g3⟩)
    ·exact .inr (.inr g)
   ·rintro(⟨g1,g2,g3⟩|⟨g1,g2,g3⟩|g)
    ·exact .inl ⟨g1,by simp only;omega,g3⟩
    ·exact .inl ⟨by simp only;omega,g2,by rw[e2];exact g3⟩
    ·exact .inr g
  |false=>
   simp only[Bool.false_eq_true,if_false];rw[lY,Pb l x p.t ⟨x1,x2,x3,x4⟩,lY (x:=p)]
theorem Sk {l:List aC} (h:Asc 0 l):bF (joinL l)=true:=by
 cases l with
 |nil=>rfl
 |cons x l=>rw[Wu];exact Ii l x none h.1 h.2.1 h.2.2.1 h.2.2.2 (λr hr=>by cases hr)
theorem aAx {l:List aC} (h:Asc 0 l) (p:Int) (a:eY):Has (joinL l) p a↔Has l p a:=by
 cases l with
 |nil=>exact Iff.rfl
 |cons x l=>rw[Wu];exact Pb l x 0 h p a
def vD (a b:aC):Prop:=a.t<=b.f\/b.t<=a.f
structure Good (l:List aC):Prop where
 ok:∀x∈l,0<=x.f/\x.f<x.t/\x.t<=64
 apart:l.Pairwise vD
theorem Good.perm {l m:List aC} (h:Good l) (hp:m.Perm l):Good m:=
 ⟨λx hx=>h.ok x (hp.mem_iff.1 hx),(hp.pairwise_iff λ{a b} h=>Or.symm h).2 h.apart⟩
theorem aHV:∀(l:List aC) (b:Int),(∀x∈l,b<=x.f/\x.f<x.t/\x.t<=64)->l.Pairwise vD->vQ l->Asc b l
 | [],_,_,_,_=>trivial
 |x::l,b,h,h2,h3=>by
  have hx:=h x List.mem_cons_self;unfold vQ at h3;rw[List.pairwise_cons] at h2 h3;refine⟨hx.1,hx.2.1,hx.2.2,aHV l x.t (λy hy=> ?_) h2.2 h3.2⟩;have hy2:=h y (List.mem_cons_of_mem _ hy);have g1:=h2.1 y hy;have g2:=h3.1 y hy;unfold vD at g1;omega
theorem Good.asc {l:List aC} (h:Good l) (hs:vQ l):Asc 0 l:=aHV l 0 h.ok h.apart hs
theorem Asc.good:∀ {l:List aC} {b:Int},0<=b->Asc b l->Good l
 | [],_,_,_=>⟨λx hx=>(nomatch hx),List.Pairwise.nil⟩
 |x::l,b,hb,h=>by
  have h2:=h;obtain⟨h3,h4,h5,h6⟩:=h;have hg:=Asc.good (by omega) h6;refine⟨λy hy=>by have:=h2.mem y hy;omega,List.pairwise_cons.2 ⟨λy hy=>.inl (h6.mem y hy).1,hg.apart⟩⟩
theorem fE {l:List aC} (h:bF l=true):Good l:=(sI h).good (Int.le_refl _)
def norm (xs:List aC):List aC:=joinL (xs.mergeSort λa b=>decide (a.f<=b.f))
theorem aDC (xs:List aC):vQ (xs.mergeSort λa b=>decide (a.f<=b.f)):=by
 have:=List.pairwise_mergeSort (le:=λa b:aC=>decide (a.f<=b.f)) (λa b c h1 h2=>by simp at*;omega) (λa b=>by simp;omega) xs;exact this.imp λh=>by simpa using h
theorem aB6 {xs:List aC} (h:Good xs):Asc 0 (xs.mergeSort λa b=>decide (a.f<=b.f)):=(h.perm (List.mergeSort_perm xs _)).asc (aDC xs)
theorem Dr {xs:List aC} (h:Good xs):bF (norm xs)=true:=Sk (aB6 h)
theorem Kr {xs:List aC} (h:Good xs) (p:Int) (a:eY):Has (norm xs) p a↔Has xs p a:=(aAx (aB6 h) p a).trans (aCD (List.mergeSort_perm xs _))
theorem aLe {xs ys:List aC} (h:Good xs) (hp:ys.Perm xs) (hs:vQ ys):joinL ys=norm xs:=
 right_eq (Sk ((h.perm hp).asc hs)) (Dr h) λp a=>by rw[aAx ((h.perm hp).asc hs),Kr h,aCD hp]
theorem Es {a b:Int} {x y:aC} :y∈Ib a b x↔(y=⟨x.f,min x.t a,x.a⟩/\x.f<min x.t a)\/(y=⟨max x.f b,x.t,x.a⟩/\max x.f b<x.t):=by
 unfold Ib;rw[List.mem_append];constructor
 ·rintro(h|h)
  ·split at h
   ·rename_i h2;exact .inl ⟨by simpa using h,h2⟩
   ·cases h
  ·split at h
   ·rename_i h2;exact .inr ⟨by simpa using h,h2⟩
   ·cases h
 ·rintro(⟨rfl,h⟩|⟨rfl,h⟩)
  ·left;rw[if_pos h];exact List.mem_singleton_self _
  ·right;rw[if_pos h];exact List.mem_singleton_self _
theorem Rc {a b:Int} {x y:aC} :y∈Ww a b x↔y=⟨max x.f a,min x.t b,x.a⟩/\max x.f a<min x.t b:=by
 unfold Ww;constructor
 ·intro h
  split at h
  ·rename_i h2;exact⟨by simpa using h,h2⟩
  ·cases h
 ·rintro⟨rfl,h⟩
  rw[if_pos h];exact List.mem_singleton_self _
theorem aAA {l:List aC} {g:aC->List aC} (h:Good l) (h1:∀x∈l,(0<=x.f/\x.f<x.t/\x.t<=64)->∀y∈g x,x.f<=y.f/\y.f<y.t/\y.t<=x.t) (h2:∀x∈l,(g x).Pairwise vD):Good (l.flatMap g):=by
 refine⟨λy hy=> ?_,?_⟩
 ·obtain⟨x,hx,hy⟩:=List.mem_flatMap.1 hy
  have:=h.ok x hx;have:=h1 x hx this y hy;omega
 ·rw[List.pairwise_flatMap]
  refine⟨h2,h.apart.imp_of_mem λ{x y} hx hy hxy u hu v hv=> ?_⟩;have:=h1 x hx (h.ok x hx) u hu;have:=h1 y hy (h.ok y hy) v hv;unfold vD at*;omega
theorem Ld {l:List aC} {a b:Int} (h:Good l) (hab:a<=b):Good (gV a b l):=by
 refine aAA h (λx hx hox y hy=> ?_) (λx hx=> ?_)
 ·rcases Es.1 hy with⟨rfl,h⟩|⟨rfl,h⟩<;>simp only<;>omega
 ·unfold Ib
  rw[List.pairwise_append];refine⟨by split<;>simp,by split<;>simp,λu hu v hv=> ?_⟩;split at hu
  ·split at hv
   ·simp at hu hv;subst hu hv;unfold vD;simp only;omega
   ·cases hv
  ·cases hu
theorem Zk {l:List aC} {a b:Int} (h:Good l):Good (fA a b l):=by
 refine aAA h (λx hx hox y hy=> ?_) (λx hx=>by unfold Ww;split<;>simp);obtain⟨rfl,h⟩:=Rc.1 hy;simp only;omega
theorem aEv {l:List aC} {a b:Int} {y:aC} (hy:y∈fA a b l):a<=y.f/\y.t<=b:=by
 obtain⟨x,hx,hy⟩:=List.mem_flatMap.1 hy;obtain⟨rfl,h⟩:=Rc.1 hy;simp only;omega
theorem Uo {l:List aC} {a b:Int} {y:aC} (hy:y∈gV a b l):y.t<=a\/b<=y.f:=by
 obtain⟨x,hx,hy⟩:=List.mem_flatMap.1 hy;rcases Es.1 hy with⟨rfl,h⟩|⟨rfl,h⟩<;>simp only<;>omega
def x9 (f:eY->eY) (x:aC):aC:=⟨x.f,x.t,f x.a⟩
theorem aJd {l:List aC} {f:eY->eY} (h:Good l):Good (l.map (x9 f)):=
 ⟨λy hy=>by obtain⟨x,hx,rfl⟩:=List.mem_map.1 hy;exact h.ok x hx,by rw[List.pairwise_map];exact h.apart⟩
theorem Ij {l m:List aC} (h:Good l) (g:Good m) (hx:∀x∈l,∀y∈m,vD x y):Good (l++m):=
 ⟨λx hx=>(List.mem_append.1 hx).elim (h.ok x) (g.ok x),List.pairwise_append.2 ⟨h.apart,g.apart,hx⟩⟩
theorem aAy {l:List aC} {a b:Int} {f:eY->eY} (h:Good l) (hab:a<=b):Good (gV a b l++(fA a b l).map (x9 f)):=
 Ij (Ld h hab) (aJd (Zk h)) λx hx y hy=>by
  obtain⟨z,hz,rfl⟩:=List.mem_map.1 hy;have:=aEv hz;have:=Uo hx;unfold vD x9;simp only;omega
theorem aCH {l:List aC} {x:aC} (h:Good l) (h0:0<=x.f) (h1:x.f<x.t) (h2:x.t<=64):Good (gV x.f x.t l++ [x]):=
 Ij (Ld h (by omega)) ⟨λy hy=>by rw[List.mem_singleton] at hy;subst hy;exact⟨h0,h1,h2⟩,List.pairwise_singleton _ _⟩ λu hu v hv=>by
  rw[List.mem_singleton] at hv;subst hv;have:=Uo hu;unfold vD;omega
theorem Zh {l:List aC} {a b p:Int} {t:eY} (hab:a<=b):Has (gV a b l) p t↔Has l p t/\¬(a<=p/\p<b):=by
 constructor
 ·rintro⟨y,hy,h1,h2,h3⟩
  have hs:=Uo hy;obtain⟨x,hx,hy⟩:=List.mem_flatMap.1 hy;rcases Es.1 hy with⟨rfl,h⟩|⟨rfl,h⟩<;>simp only at h1 h2 h3 hs<;>exact⟨⟨x,hx,by omega,by omega,h3⟩,by omega⟩
 ·rintro⟨⟨x,hx,h1,h2,h3⟩,h4⟩
  by_cases hp:p<a
  ·exact⟨_,List.mem_flatMap.2 ⟨x,hx,Es.2 (.inl ⟨rfl,by omega⟩)⟩,h1,by simp only;omega,h3⟩
  ·exact⟨_,List.mem_flatMap.2 ⟨x,hx,Es.2 (.inr ⟨rfl,by omega⟩)⟩,by simp only;omega,h2,h3⟩
theorem Ex {l:List aC} {a b p:Int} {t:eY} :Has (fA a b l) p t↔Has l p t/\a<=p/\p<b:=by
 constructor
 ·rintro⟨y,hy,h1,h2,h3⟩
  have hs:=aEv hy;obtain⟨x,hx,hy⟩:=List.mem_flatMap.1 hy;obtain⟨rfl,h⟩:=Rc.1 hy;simp only at h1 h2 h3 hs;exact⟨⟨x,hx,by omega,by omega,h3⟩,by omega,by omega⟩
 ·rintro⟨⟨x,hx,h1,h2,h3⟩,h4,h5⟩
  exact⟨_,List.mem_flatMap.2 ⟨x,hx,Rc.2 ⟨rfl,by omega⟩⟩,by simp only;omega,by simp only;omega,h3⟩
theorem aLH {l:List aC} {f:eY->eY} {p:Int} {t:eY} :Has (l.map (x9 f)) p t↔∃s,Has l p s/\f s=t:=by
 constructor
 ·rintro⟨y,hy,h1,h2,h3⟩
  obtain⟨x,hx,rfl⟩:=List.mem_map.1 hy;exact⟨x.a,⟨x,hx,h1,h2,rfl⟩,h3⟩
 ·rintro⟨s,⟨x,hx,h1,h2,rfl⟩,h4⟩
  exact⟨_,List.mem_map.2 ⟨x,hx,rfl⟩,h1,h2,h4⟩
theorem Zi {x:aC} {p:Int} {t:eY} :Has [x] p t↔x.f<=p/\p<x.t/\x.a=t:=by
 rw[lY];exact⟨λh=>h.resolve_right Ah,.inl⟩
def tot:List aC->Int
 | []=>0
 |x::l=>(x.t -x.f)+tot l
theorem J6:∀l m:List aC,tot (l++m)=tot l+tot m
 | [],m=>by simp[tot]
 |x::l,m=>by simp only[List.cons_append,tot];rw[J6 l m];omega
def Sl (x:aC) (p:Nat):Bool:=decide (x.f<=(p:Int))&&decide ((p:Int)<x.t)
def Jl (l:List aC) (p:Nat):Bool:=l.any λx=>Sl x p
theorem xS {l:List aC} {p:Nat} :Jl l p=true↔∃t,Has l p t:=by
 unfold Jl;rw[List.any_eq_true];constructor
 ·rintro⟨x,hx,h⟩
  simp[Sl] at h;exact⟨x.a,x,hx,h.1,h.2,rfl⟩
 ·rintro⟨t,x,hx,h1,h2,h3⟩
  exact⟨x,hx,by simp[Sl,h1,h2]⟩
theorem U9 (x:aC) (h0:0<=x.f) (h1:x.f<=x.t):∀n:Nat,(((List.range n).countP (Sl x):Nat):Int)=min x.t n -min x.f n
 |0=>by simp;omega
 |n+1=>by
  rw[List.range_succ,List.countP_append,Int.natCast_add,U9 x h0 h1 n];simp only[List.countP_cons,List.countP_nil,Sl];by_cases a:x.f<=(n:Int)<;>by_cases b:(n:Int)<x.t<;>simp[a,b]<;>omega
theorem Qc {α:Type} (p q:α->Bool):∀l:List α,(∀x∈l,¬(p x=true/\q x=true))->l.countP (λx=>p x||q x)=l.countP p+l.countP q
 | [],_=>rfl
 |x::l,h=>by
  have ih:=Qc p q l λy hy=>h y (List.mem_cons_of_mem _ hy);have hx:=h x List.mem_cons_self;simp only[List.countP_cons,ih];cases hp:p x<;>cases hq:q x<;>simp[hp,hq] at* <;>omega
theorem rM:∀ {l:List aC},Good l->tot l=((List.range 64).countP (Jl l):Nat)
 | [],_=>by
   have:(List.range 64).countP (Jl [])=0:=List.countP_eq_zero.2 λx _=>by simp[Jl]
   rw[this];rfl
 |x::l,hg=>by
  have hl:Good l:=⟨λy hy=>hg.ok y (List.mem_cons_of_mem _ hy),(List.pairwise_cons.1 hg.apart).2⟩;have hx:=hg.ok x List.mem_cons_self;have e:Jl (x::l)=λp=>Sl x p||Jl l p:=by funext p;simp[Jl]
  rw[e,Qc _ _ _ (λp _ ⟨h1,h2⟩=>by
   obtain⟨t,y,hy,g1,g2,_⟩:=xS.1 h2;have:=(List.pairwise_cons.1 hg.apart).1 y hy;simp[Sl] at h1;unfold vD at this;omega),Int.natCast_add,<-rM hl,U9 x hx.1 (by omega)]
  simp only[tot];omega
theorem count_one (k:Nat):∀n:Nat,(List.range n).countP (λp=>p==k)=if k<n then 1 else 0
 |0=>rfl
 |n+1=>by
  rw[List.range_succ,List.countP_append,count_one k n];simp only[List.countP_cons,List.countP_nil];by_cases h:n=k
  ·subst h;simp
  ·have:(n==k)=false:=by simpa using h
   simp only[this,Bool.false_eq_true,if_false,Nat.add_zero];by_cases h1:k<n
   ·rw[if_pos h1,if_pos (by omega)]
   ·rw[if_neg h1,if_neg (by omega)]
theorem aHY {l:List aC} {a b:Int} (hg:Good l) (h0:0<=a) (hab:a<b) (h64:b<=64) (h:b -a<=tot (fA a b l)):∀p,a<=p->p<b->∃t,Has l p t:=by
 intro p h1 h2;obtain⟨k,rfl⟩:=Int.eq_ofNat_of_zero_le (show 0<=p by omega);rw[rM (Zk hg)] at h;have hc:=U9 ⟨a,b,default⟩ h0 (by simp only;omega) 64;simp only at hc;by_cases hk:Jl (fA a b l) k=true
 ·obtain⟨t,ht⟩:=xS.1 hk
  exact⟨t,(Ex.1 ht).1⟩
 ·exfalso
  have hle:(List.range 64).countP (Jl (fA a b l))+1<=(List.range 64).countP (Sl ⟨a,b,default⟩):=by
   have e:(List.range 64).countP (λp=>Jl (fA a b l) p||p==k)=(List.range 64).countP (Jl (fA a b l))+(List.range 64).countP (λp=>p==k):=Qc _ _ _ (λp _ ⟨g1,g2⟩=>by
    simp at g2;subst g2;exact hk g1)
   have e2:(List.range 64).countP (λp=>p==k)=1:=by
    rw[count_one k 64,if_pos (by omega)]
   rw[e2] at e;rw[<-e];refine List.countP_mono_left λp _ hp=> ?_;simp only[Bool.or_eq_true,beq_iff_eq] at hp;rcases hp with hp|rfl
   ·obtain⟨t,ht⟩:=xS.1 hp
    have:=(Ex.1 ht).2;simp[Sl];omega
   ·simp[Sl];omega
  omega
end Go.Proofs.YtoogfmbojlpjaaaGreat
namespace Go.Proofs.YtoogfmbojlpjaaaGreat
open Go.ChangeShapes Go.WideShapes Go.ChangeAt Go.RowKit Go.Joins
structure aH where
 a:Int
 o:Int
deriving DecidableEq
instance:Inhabited aH:=⟨⟨0,0⟩⟩
def nY (x y:aH):Bool:=x.a==y.a&&x.o==y.o
theorem Rn {x y:aH} :nY x y=true↔x=y:=by
 obtain⟨a1,a2⟩:=x;obtain⟨b1,b2⟩:=y;simp[nY]
def lQ (x:aH):List Value:=[.int .i64 x.a,.int .i64 x.o]
theorem jD (x:aH):(lQ x).length=2:=rfl
theorem D9 (x:aH):∀u∈lQ x,u.oneCell'=true:=by
 intro u hu;simp[lQ] at hu;rcases hu with rfl|rfl<;>rfl
theorem aNs (xs:List aH):∀u∈xs.flatMap lQ,u.oneCell'=true:=by
 intro u hu;obtain⟨y,_,hy⟩:=List.mem_flatMap.1 hu;exact D9 y u hy
theorem Pg:(Tryz.prog.info? 184).map (λi=>(i.zero,i.size,i.bytes))=some (some (.agg #[.int .i64 0,.int .i64 0]),2,16):=by kernel_rfl
theorem aBS (d:Nat) (x y:aH) (w:World):(Op.equalIn (d+2) 184 (.agg #[.int .i64 x.a,.int .i64 x.o]) (.agg #[.int .i64 y.a,.int .i64 y.o])).run Tryz.prog w=.ok (nY x y) w:=by
 by_cases h0:x.a=y.a<;>by_cases h1:x.o=y.o<;>simp[go_sem,Tryz.underlying184,Tryz.underlying3,h0,h1,nY]
theorem aK0 (x y:aH) (w:World):(Op.equalIn 10000 184 (.agg #[.int .i64 x.a,.int .i64 x.o]) (.agg #[.int .i64 y.a,.int .i64 y.o])).run Tryz.prog w=.ok (nY x y) w:=aBS 9998 x y w
def aH.fits (x:aH):Prop:=eG x.a/\eG x.o
end Go.Proofs.YtoogfmbojlpjaaaGreat
namespace Go.Proofs.YtoogfmbojlpjaaaGreat
def aX (o:Int):Int:=2^o.toNat
def okB (b:aH):Bool:=decide (0<=b.o)&&decide (b.o<=6)&&decide (0<=b.a)&&decide (b.a<=64 -aX b.o)&&decide (b.a%aX b.o=0)
def eQ (a o:Int):Int:=if(a/aX o)%2=0 then a+aX o else a -aX o
def uC (p x:aH):Bool:=!(decide (x.a<p.a+aX p.o))&& !(decide (x.o<6)&&nY p ⟨eQ x.a x.o,x.o⟩)
def oH:Option aH->List aH->Bool
 |_,[]=>true
 |p,x::l=>okB x&&(match p with|none=>true|some p=>uC p x)&&oH (some x) l
def kX (l:List aH):Bool:=oH none l
theorem V8:∀(l:List aH) (q:Option aH) (k:Nat) (x:aH),l[k]? =some x->(okB x=false\/∃p,(if k=0 then q else l[k -1]?)=some p/\uC p x=false)->oH q l=false
 | [],_,_,_,h,_=>by simp at h
 |y::l,q,0,x,h,h2=>by
  simp at h;subst h;unfold oH;rcases h2 with h2|⟨p,hp,h2⟩
  ·rw[h2];rfl
  ·rw[if_pos rfl] at hp
   subst hp;simp[h2]
 |y::l,q,k+1,x,h,h2=>by
  unfold oH;rw[V8 l (some y) k x (by simpa using h) (h2.imp id λ⟨p,hp,h3⟩=>⟨p,by
   rw[if_neg (by omega),Nat.add_sub_cancel] at hp;cases k with
   |zero=>simpa using hp
   |succ k=>simpa using hp,h3⟩),Bool.and_false]
theorem Sc:∀(l:List aH) (q:Option aH),(∀k x,k<l.length->l[k]? =some x->okB x=true/\∀p,(if k=0 then q else l[k -1]?)=some p->uC p x=true)->oH q l=true
 | [],_,_=>rfl
 |y::l,q,h=>by
  unfold oH;have h0:=h 0 y (by simp) rfl;rw[h0.1,Sc l (some y) λk x hk hx=> ?_]
  ·cases q with
   |none=>rfl
   |some p=>
    have:=h0.2 p rfl;simp[this]
  ·have h1:=h (k+1) x (by simpa using hk) (by simpa using hx)
   refine⟨h1.1,λp hp=>h1.2 p ?_⟩;rw[if_neg (by omega),Nat.add_sub_cancel];cases k with
   |zero=>simpa using hp
   |succ k=>simpa using hp
theorem dC (o:Int):0<aX o:=by unfold aX;exact Int.pow_pos (by decide)
theorem bL {b:aH} (h:okB b=true):0<=b.a/\b.a<=64 -aX b.o/\b.a%aX b.o=0/\((b.o=0/\aX b.o=1)\/(b.o=1/\aX b.o=2)\/(b.o=2/\aX b.o=4)\/(b.o=3/\aX b.o=8)\/(b.o=4/\aX b.o=16)\/(b.o=5/\aX b.o=32)\/(b.o=6/\aX b.o=64)):=by
 simp only[okB,Bool.and_eq_true,decide_eq_true_eq] at h;obtain⟨⟨⟨⟨h1,h2⟩,h3⟩,h4⟩,h5⟩:=h;refine⟨h3,h4,h5,?_⟩;have:b.o=0\/b.o=1\/b.o=2\/b.o=3\/b.o=4\/b.o=5\/b.o=6:=by omega
 rcases this with e|e|e|e|e|e|e<;>rw[e]<;>simp[aX]
def jR (x y:aH):Prop:=x.a+aX x.o<=y.a
def Cb (x y:aH):Prop:=jR x y\/jR y x
def Ra (l:List aH):Prop:=∀x∈l,∀y∈l,x.o<6->y≠⟨eQ x.a x.o,x.o⟩
def Rp (l:List aH):Prop:=(∀b∈l,okB b=true)/\l.Pairwise jR/\Ra l
def Bg (l:List aH):Prop:=(∀b∈l,okB b=true)/\l.Pairwise Cb/\Ra l
def fP (b:aH) (n:Int):Prop:=b.a<=n/\n<b.a+aX b.o
def iI (l:List aH) (n:Int):Prop:=∃b∈l,fP b n
theorem Zm (n:Int):¬iI [] n:=by rintro⟨b,hb,_⟩;cases hb
theorem jI {b:aH} {l:List aH} {n:Int} :iI (b::l) n↔fP b n\/iI l n:=by
 simp[iI]
theorem Xp {l m:List aH} {n:Int} :iI (l++m) n↔iI l n\/iI m n:=by
 simp[iI,or_and_right,exists_or]
theorem Lm {l m:List aH} (h:l.Perm m) {n:Int} :iI l n↔iI m n:=by
 simp[iI,h.mem_iff]
theorem xM (b:aH):fP b b.a:=⟨Int.le_refl _,by have:=dC b.o;omega⟩
theorem Kv {x y:aH} (h:jR x y) {n:Int} (hx:fP x n):¬fP y n:=λhy=>by
 unfold jR at h;unfold fP at hx hy;omega
theorem Rp.tail {x:aH} {l:List aH} (h:Rp (x::l)):Rp l:=
 ⟨λb hb=>h.1 b (List.mem_cons_of_mem _ hb),(List.pairwise_cons.1 h.2.1).2,λa ha b hb=>h.2.2 a (List.mem_cons_of_mem _ ha) b (List.mem_cons_of_mem _ hb)⟩
theorem Rp.head {x:aH} {l:List aH} (h:Rp (x::l)):∀y∈l,jR x y:=(List.pairwise_cons.1 h.2.1).1
theorem aJC {a o:Int} (h:(a/aX o)%2=0):eQ a o=a+aX o:=by unfold eQ;rw[if_pos h]
theorem aEi:∀(l:List aH) (x:aH),Rp (x::l)->x.a%(2*aX x.o)=0->x.o<6->(∀n,x.a+aX x.o<=n->n<x.a+2*aX x.o->iI l n)->False
 | [],x,h,h1,h2,h3=>Zm _ (h3 (x.a+aX x.o) (Int.le_refl _) (by have:=dC x.o;omega))
 |y::r,x,h,h1,h2,h3=>by
  have hp:=dC x.o;obtain⟨b,hb,hin⟩:=h3 (x.a+aX x.o) (Int.le_refl _) (by omega);have hbx:=h.head b hb;have hyx:=h.head y (List.mem_cons_self ..);have hya:y.a=x.a+aX x.o:=by
   rcases List.mem_cons.1 hb with rfl|hb
   ·unfold jR at hbx;unfold fP at hin;omega
   ·have:=h.tail.head b hb
    have:=dC y.o;unfold jR at*;unfold fP at hin;omega
  have Md:=bL (h.1 y (by simp));have Ot:=bL (h.1 x (by simp));have hnb:=h.2.2 x (by simp) y (by simp) h2;by_cases hlt:y.o<x.o
  ·refine aEi r y h.tail ?_ (by omega) λn hn1 hn2=> ?_
   ·obtain⟨_,_,x3,x4⟩:=Ot
    obtain⟨_,_,y3,y4⟩:=Md;generalize aX x.o=sx at*;generalize aX y.o=sy at*;clear h3 hnb;rcases x4 with⟨e1,e2⟩|⟨e1,e2⟩|⟨e1,e2⟩|⟨e1,e2⟩|⟨e1,e2⟩|⟨e1,e2⟩|⟨e1,e2⟩<;>subst e2<;>rcases y4 with⟨f1,f2⟩|⟨f1,f2⟩|⟨f1,f2⟩|⟨f1,f2⟩|⟨f1,f2⟩|⟨f1,f2⟩|⟨f1,f2⟩<;>subst f2<;>omega
   ·have hle:2*aX y.o<=aX x.o:=by
     obtain⟨_,_,x3,x4⟩:=Ot;obtain⟨_,_,y3,y4⟩:=Md;omega
    rcases jI.1 (h3 n (by omega) (by omega)) with hi|hc
    ·unfold fP at hi;omega
    ·exact hc
  ·obtain⟨_,_,x3,x4⟩:=Ot
   obtain⟨_,_,y3,y4⟩:=Md;by_cases he:y.o=x.o
   ·refine hnb ?_
    rw[aJC]
    ·obtain⟨ya,yo⟩:=y
     simp only at hya he;rw[hya,he]
    ·generalize aX x.o=sx at*;rcases x4 with⟨e1,e2⟩|⟨e1,e2⟩|⟨e1,e2⟩|⟨e1,e2⟩|⟨e1,e2⟩|⟨e1,e2⟩|⟨e1,e2⟩<;>subst e2<;>omega
   ·generalize aX x.o=sx at*;generalize aX y.o=sy at*;clear h3 hnb;rcases x4 with⟨e1,e2⟩|⟨e1,e2⟩|⟨e1,e2⟩|⟨e1,e2⟩|⟨e1,e2⟩|⟨e1,e2⟩|⟨e1,e2⟩<;>subst e2<;>rcases y4 with⟨f1,f2⟩|⟨f1,f2⟩|⟨f1,f2⟩|⟨f1,f2⟩|⟨f1,f2⟩|⟨f1,f2⟩|⟨f1,f2⟩<;>subst f2<;>omega
theorem aCS {x:aH} {l:List aH} (h:Rp (x::l)) {n:Int} (hc:iI (x::l) n):x.a<=n:=by
 rcases jI.1 hc with hi|⟨b,hb,hi⟩
 ·exact hi.1
 ·have:=h.head b hb
  have:=dC x.o;unfold jR at*;unfold fP at hi;omega
theorem aG4 {x y:aH} {l m:List aH} (hl:Rp (x::l)) (hm:Rp (y::m)) (h:∀n,iI (x::l) n↔iI (y::m) n) (ha:x.a=y.a):¬x.o<y.o:=λhlt=>by
 have Ot:=bL (hl.1 x (by simp));have Md:=bL (hm.1 y (by simp));have hle:2*aX x.o<=aX y.o:=by
  obtain⟨_,_,x3,x4⟩:=Ot;obtain⟨_,_,y3,y4⟩:=Md;omega
 refine aEi l x hl ?_ ?_ λn hn1 hn2=> ?_
 ·obtain⟨_,_,x3,x4⟩:=Ot
  obtain⟨_,_,y3,y4⟩:=Md;rw[<-ha] at y3;generalize aX x.o=sx at*;generalize aX y.o=sy at*;rcases x4 with⟨e1,e2⟩|⟨e1,e2⟩|⟨e1,e2⟩|⟨e1,e2⟩|⟨e1,e2⟩|⟨e1,e2⟩|⟨e1,e2⟩<;>subst e2<;>rcases y4 with⟨f1,f2⟩|⟨f1,f2⟩|⟨f1,f2⟩|⟨f1,f2⟩|⟨f1,f2⟩|⟨f1,f2⟩|⟨f1,f2⟩<;>subst f2<;>omega
 ·obtain⟨_,_,y3,y4⟩:=Md
  omega
 ·rcases jI.1 ((h n).2 (jI.2 (.inl ⟨by omega,by omega⟩))) with hi|hc
  ·unfold fP at hi;omega
  ·exact hc
theorem aKi:∀(l m:List aH),Rp l->Rp m->(∀n,iI l n↔iI m n)->l=m
 | [],[],_,_,_=>rfl
 | [],y::m,_,hm,h=>absurd ((h y.a).2 (jI.2 (.inl (xM y)))) (Zm _)
 |x::l,[],hl,_,h=>absurd ((h x.a).1 (jI.2 (.inl (xM x)))) (Zm _)
 |x::l,y::m,hl,hm,h=>by
  have ha:x.a=y.a:=by
   have h1:=aCS hl ((h y.a).2 (jI.2 (.inl (xM y))));have h2:=aCS hm ((h x.a).1 (jI.2 (.inl (xM x))));omega
  have ho1:=aG4 hl hm h ha;have ho2:=aG4 hm hl (λn=>(h n).symm) ha.symm;have hxy:x=y:=by
   obtain⟨xa,xo⟩:=x;obtain⟨ya,yo⟩:=y;simp only at ha ho1 ho2;have:xo=yo:=by omega
   subst this;subst ha;rfl
  subst hxy;refine congrArg (x:: ·) (aKi l m hl.tail hm.tail λn=>⟨λhc=> ?_,λhc=> ?_⟩)
  ·rcases jI.1 ((h n).1 (jI.2 (.inr hc))) with hi|hc'
   ·obtain⟨b,hb,hi2⟩:=hc
    exact absurd hi2 (Kv (hl.head b hb) hi)
   ·exact hc'
  ·rcases jI.1 ((h n).2 (jI.2 (.inr hc))) with hi|hc'
   ·obtain⟨b,hb,hi2⟩:=hc
    exact absurd hi2 (Kv (hm.head b hb) hi)
   ·exact hc'
theorem aAY {b:aH} (h:okB b=true) (h6:b.o<6):eQ (eQ b.a b.o) b.o=b.a:=by
 obtain⟨_,_,x3,x4⟩:=bL h;unfold eQ;generalize aX b.o=sx at*;rcases x4 with⟨e1,e2⟩|⟨e1,e2⟩|⟨e1,e2⟩|⟨e1,e2⟩|⟨e1,e2⟩|⟨e1,e2⟩|⟨e1,e2⟩<;>subst e2<;>split<;>split<;>omega
theorem aAk:∀(l:List aH) (q:Option aH),oH q l=true->(∀p,q=some p->okB p=true/\∀x∈l.head?,uC p x=true)->Rp l/\∀p,q=some p->∀x∈l,jR p x/\∀y:aH,okB y=true->jR y p->(∀z∈l,z.o<6->y≠⟨eQ z.a z.o,z.o⟩)
 | [],q,_,hq=>⟨⟨by simp,List.Pairwise.nil,by simp[Ra]⟩,by simp⟩
 |x::l,q,h,hq=>by
  simp only[oH,Bool.and_eq_true] at h;obtain⟨⟨hx,hn⟩,hr⟩:=h;obtain⟨ih,ih2⟩:=aAk l (some x) hr λp hp=>by
   cases hp;refine⟨hx,λy hy=> ?_⟩;cases l with
   |nil=>simp at hy
   |cons z l=>
    simp at hy;subst hy;simp only[oH,Bool.and_eq_true] at hr;exact hr.1.2
  have ih2:=ih2 x rfl;have hnx:∀z∈l,z.o<6->x≠⟨eQ z.a z.o,z.o⟩:=by
   intro z hz h6 e;cases l with
   |nil=>cases hz
   |cons y l=>
    simp only[oH,Bool.and_eq_true] at hr;have hny:=hr.1.2;rcases List.mem_cons.1 hz with rfl|hz
    ·simp only[uC,Bool.and_eq_true,Bool.not_eq_true',Bool.and_eq_false_iff,decide_eq_false_iff_not] at hny
     rcases hny.2 with h7|h7
     ·exact h7 h6
     ·rw[<-e,Rn.2 rfl] at h7;cases h7
    ·have h1:=(ih2 y (by simp)).1
     have h2:=ih.head z hz;have h3:=bL (ih.1 z (by simp[hz]));have h4:=bL hx;have:=dC y.o;have e2:x.o=z.o:=by rw[e]
     have e1:x.a=eQ z.a z.o:=by rw[e]
     unfold jR at h1 h2;unfold eQ at e1;rw[e2] at h1;split at e1<;>omega
  have hmem:∀z∈l,jR x z:=λz hz=>(ih2 z hz).1;refine⟨⟨?_,List.pairwise_cons.2 ⟨hmem,ih.2.1⟩,?_⟩,?_⟩
  ·intro b hb
   rcases List.mem_cons.1 hb with rfl|hb
   ·exact hx
   ·exact ih.1 b hb
  ·intro a ha b hb h6 e
   rcases List.mem_cons.1 ha with rfl|ha'<;>rcases List.mem_cons.1 hb with rfl|hb'
   ·have e1:b.a=eQ b.a b.o:=congrArg aH.a e
    have:=dC b.o;unfold eQ at e1;split at e1<;>omega
   ·refine hnx b hb' (by rw[e];exact h6) ?_
    have e1:b.a=eQ a.a a.o:=by rw[e]
    have e2:b.o=a.o:=by rw[e]
    rw[e1,e2,aAY hx h6]
   ·exact hnx a ha' h6 e
   ·exact ih.2.2 a ha' b hb' h6 e
  ·rintro p rfl
   obtain⟨hp,hp2⟩:=hq p rfl;have hpx:=hp2 x (by simp);have hpl:jR p x:=by
    simp only[uC,Bool.and_eq_true,Bool.not_eq_true',decide_eq_false_iff_not] at hpx;unfold jR;omega
   intro z hz;constructor
   ·rcases List.mem_cons.1 hz with rfl|hz
    ·exact hpl
    ·have:=hmem z hz
     have:=dC x.o;unfold jR at*;omega
   ·intro y hy hyp z hz h6 e
    have hz2:jR p z:=by
     rcases List.mem_cons.1 hz with rfl|hz
     ·exact hpl
     ·have:=hmem z hz
      have:=dC x.o;unfold jR at*;omega
    have:=dC p.o;have:=dC z.o;have e1:y.a=eQ z.a z.o:=by rw[e]
    have e2:y.o=z.o:=by rw[e]
    unfold jR at*;unfold eQ at e1;rw[e2] at hyp;split at e1<;>omega
theorem wU {l:List aH} (h:kX l=true):Rp l:=(aAk l none h (by simp)).1
theorem aAg:∀(l:List aH) (q:Option aH),Rp l->(∀p,q=some p->∀x∈l,uC p x=true)->oH q l=true
 | [],_,_,_=>rfl
 |x::l,q,h,hq=>by
  simp only[oH,Bool.and_eq_true];refine⟨⟨h.1 x (by simp),?_⟩,?_⟩
  ·cases q with
   |none=>rfl
   |some p=>exact hq p rfl x (by simp)
  ·refine aAg l (some x) h.tail ?_
   rintro p hp y hy;cases hp;have h1:=h.head y hy;unfold jR at h1;simp only[uC,Bool.and_eq_true,Bool.not_eq_true',Bool.and_eq_false_iff,decide_eq_false_iff_not];refine⟨by omega,?_⟩;by_cases h6:y.o<6
   ·right
    cases he:nY x ⟨eQ y.a y.o,y.o⟩ with
    |false=>rfl
    |true=>exact absurd (Rn.1 he) (h.2.2 y (by simp[hy]) x (by simp) h6)
   ·exact .inl h6
theorem Gr {l:List aH} :kX l=true↔Rp l:=⟨wU,λh=>aAg l none h (by simp)⟩
theorem Rp.good {l:List aH} (h:Rp l):Bg l:=⟨h.1,h.2.1.imp λh=>.inl h,h.2.2⟩
theorem aC2 {x y:aH} (h:Cb x y):Cb y x:=h.symm
theorem Bg.perm {l m:List aH} (h:Bg l) (hp:l.Perm m):Bg m:=
 ⟨λb hb=>h.1 b (hp.mem_iff.2 hb),(hp.pairwise_iff (λ{_ _} h=>aC2 h)).1 h.2.1,λx hx y hy=>h.2.2 x (hp.mem_iff.2 hx) y (hp.mem_iff.2 hy)⟩
theorem Bg.sorted {l:List aH} (h:Bg l) (hs:l.Pairwise λx y=>x.a<=y.a):Rp l:=by
 refine⟨h.1,?_,h.2.2⟩;refine(hs.and h.2.1).imp λ{x y} ⟨h1,h2⟩=> ?_;have:=dC x.o;have:=dC y.o;rcases h2 with h2|h2
 ·exact h2
 ·unfold jR at*;omega
def aBc (fr:Nat->Bool) (at' n:Nat):Bool:=(List.range n).all λj=>fr (at'+j)
def Ez (fr:Nat->Bool) (at' k:Nat):Bool:=decide (at'%2^k=0)&&aBc fr at' (2^k)
def Fj (fr:Nat->Bool) (at':Nat):Nat->Option Nat
 |0=>none
 |k+1=>if Ez fr at' k then some k else Fj fr at' k
def Im (fr:Nat->Bool):Nat->Nat->List aH
 |0,_=>[]
 |f+1,at'=>if at'<64 then(match Fj fr at' 7 with
   |none=>Im fr f (at'+1)
   |some o=>⟨at',o⟩::Im fr f (at'+2^o)) else []
def canon (fr:Nat->Bool):List aH:=Im fr 64 0
theorem Hl {fr:Nat->Bool} {a n:Nat} :aBc fr a n=true↔∀j<n,fr (a+j)=true:=by simp[aBc]
theorem xV {fr:Nat->Bool} {a:Nat} :∀ {k o:Nat},Fj fr a k=some o->o<k/\Ez fr a o=true/\∀j,o<j->j<k->Ez fr a j=false
 |0,_,h=>by simp[Fj] at h
 |k+1,o,h=>by
  unfold Fj at h;split at h
  ·next h1=>
   cases h;exact⟨Nat.lt_succ_self _,h1,λj h2 h3=>by omega⟩
  ·next h1=>
   obtain⟨h2,h3,h4⟩:=xV h;refine⟨by omega,h3,λj h5 h6=> ?_⟩;by_cases e:j=k
   ·rw[e];simpa using h1
   ·exact h4 j h5 (by omega)
theorem aAZ {fr:Nat->Bool} {a:Nat} :∀ {k:Nat},Fj fr a k=none->∀j,j<k->Ez fr a j=false
 |0,_,j,hj=>by omega
 |k+1,h,j,hj=>by
  unfold Fj at h;split at h
  ·cases h
  ·next h1=>
   by_cases e:j=k
   ·rw[e];simpa using h1
   ·exact aAZ h j (by omega)
theorem Dy (k:Nat):aX (k:Int)=((2^k:Nat):Int):=by simp[aX]
theorem aGZ {k a:Nat} (hk:k<7) (ha:a<64) (h:a%2^k=0):a+2^k<=64:=by
 have:k=0\/k=1\/k=2\/k=3\/k=4\/k=5\/k=6:=by omega
 rcases this with rfl|rfl|rfl|rfl|rfl|rfl|rfl<;>simp at h⊢ <;>omega
def Rf (fr:Nat->Bool) (b:aH):Prop:=∃a o:Nat,b=⟨a,o⟩/\a<64/\Fj fr a 7=some o
theorem Rf.ok {fr:Nat->Bool} {b:aH} (h:Rf fr b):okB b=true:=by
 obtain⟨a,o,rfl,ha,hb⟩:=h;obtain⟨h1,h2,_⟩:=xV hb;simp only[Ez,Bool.and_eq_true,decide_eq_true_eq] at h2;have:=aGZ h1 ha h2.1;simp only[okB,Bool.and_eq_true,decide_eq_true_eq,Dy];refine⟨⟨⟨⟨by omega,by omega⟩,by omega⟩,by omega⟩,?_⟩;have:=h2.1
 exact_mod_cast this
theorem Rf.in {fr:Nat->Bool} {b:aH} (h:Rf fr b) {n:Int} (hn:fP b n):0<=n/\n<64/\fr n.toNat=true:=by
 have hok:=bL h.ok;obtain⟨a,o,rfl,ha,hb⟩:=h;obtain⟨h1,h2,_⟩:=xV hb;simp only[Ez,Bool.and_eq_true,decide_eq_true_eq] at h2;have hA:=Hl.1 h2.2;unfold fP at hn;simp only[Dy] at hn hok;have:=hA (n.toNat -a) (by omega);rw[show a+(n.toNat -a)=n.toNat by omega] at this;exact⟨by omega,by omega,this⟩
theorem aEL {fr:Nat->Bool} {a o:Nat} (h1:Fj fr a 7=some o) (h2:Ez fr (a+2^o) o=true) (h6:o<6) (ha:a%2^(o+1)=0):False:=by
 obtain⟨_,h3,h4⟩:=xV h1;have h5:=h4 (o+1) (by omega) (by omega);simp only[Ez,Bool.and_eq_true,decide_eq_true_eq] at h2 h3;have h7:Ez fr a (o+1)=true:=by
  simp only[Ez,Bool.and_eq_true,decide_eq_true_eq];refine⟨ha,Hl.2 λj hj=> ?_⟩;rw[Nat.pow_succ] at hj;by_cases hl:j<2^o
  ·exact Hl.1 h3.2 j hl
  ·have:=Hl.1 h2.2 (j -2^o) (by omega)
   rw[show a+2^o+(j -2^o)=a+j by omega] at this;exact this
 rw[h7] at h5;cases h5
theorem aHQ {fr:Nat->Bool} {l:List aH} (h:∀b∈l,Rf fr b):Ra l:=by
 intro x hx y hy h6 e;have Ot:=bL (h x hx).ok;have Md:=bL (h y hy).ok;obtain⟨a,o,rfl,ha,hb⟩:=h x hx;obtain⟨c,p,rfl,hc,hd⟩:=h y hy;have e1:(c:Int)=eQ a o:=congrArg aH.a e;have e2:(p:Int)=o:=congrArg aH.o e;have e3:p=o:=by omega
 subst e3;simp only at h6;obtain⟨_,f1,_⟩:=xV hb;obtain⟨_,g1,_⟩:=xV hd;have hp0:0<2^p:=Nat.two_pow_pos p;unfold eQ at e1;simp only[Dy] at e1 Ot Md;obtain⟨_,_,Ot,_⟩:=Ot;obtain⟨_,_,Md,_⟩:=Md;have ha0:a%2^p=0:=by exact_mod_cast Ot
 have hc0:c%2^p=0:=by exact_mod_cast Md
 have key:∀z:Nat,z%2^p=0->(z/2^p)%2=0->z%2^(p+1)=0:=by
  intro z h1 h2;obtain⟨k,rfl⟩:=Nat.dvd_of_mod_eq_zero h1;rw[Nat.mul_div_cancel_left _ hp0] at h2;obtain⟨q,rfl⟩:=Nat.dvd_of_mod_eq_zero h2;rw[Nat.pow_succ,<-Nat.mul_assoc];exact Nat.mul_mod_right _ _
 split at e1
 ·next hz=>
  have hz':(a/2^p)%2=0:=by exact_mod_cast hz
  have:c=a+2^p:=by omega
  subst this;exact aEL hb g1 (by omega) (key a ha0 hz')
 ·next hz=>
  have hz':¬(a/2^p)%2=0:=by exact_mod_cast hz
  have hca:a=c+2^p:=by omega
  subst hca;refine aEL hd f1 (by omega) (key c hc0 ?_);rw[Nat.add_div_right _ hp0] at hz';omega
theorem Am (fr:Nat->Bool):∀(f a:Nat),(∀b∈Im fr f a,Rf fr b/\(a:Int)<=b.a)/\(Im fr f a).Pairwise jR
 |0,_=>⟨by simp[Im],by simp[Im]⟩
 |f+1,a=>by
  unfold Im;split
  ·next ha=>
   cases hb:Fj fr a 7 with
   |none=>
    obtain⟨h1,h2⟩:=Am fr f (a+1);exact⟨λb hb=>⟨(h1 b hb).1,by have:=(h1 b hb).2;omega⟩,h2⟩
   |some o=>
    obtain⟨h1,h2⟩:=Am fr f (a+2^o);refine⟨λb hm=> ?_,List.pairwise_cons.2 ⟨λb hm=> ?_,h2⟩⟩
    ·rcases List.mem_cons.1 hm with rfl|hm
     ·exact⟨⟨a,o,rfl,ha,hb⟩,Int.le_refl _⟩
     ·exact⟨(h1 b hm).1,by have:=(h1 b hm).2;have:=Nat.two_pow_pos o;omega⟩
    ·have:=(h1 b hm).2
     unfold jR;simp only[Dy];omega
  ·simp
theorem Va (fr:Nat->Bool):∀(f a:Nat),64<=a+f->∀n:Nat,a<=n->n<64->fr n=true->iI (Im fr f a) n
 |0,a,h,n,h1,h2,_=>by omega
 |f+1,a,h,n,h1,h2,h3=>by
  unfold Im;rw[if_pos (by omega)];cases hb:Fj fr a 7 with
  |none=>
   by_cases e:n=a
   ·have:=aAZ hb 0 (by omega)
    subst e;simp[Ez,aBc,h3,Nat.mod_one] at this
   ·exact Va fr f (a+1) (by omega) n (by omega) h2 h3
  |some o=>
   have:=Nat.two_pow_pos o;by_cases e:n<a+2^o
   ·exact jI.2 (.inl ⟨by simp only;omega,by simp only[Dy];omega⟩)
   ·exact jI.2 (.inr (Va fr f (a+2^o) (by omega) n (by omega) h2 h3))
theorem vC (fr:Nat->Bool):Rp (canon fr):=⟨λb hb=>((Am fr 64 0).1 b hb).1.ok,(Am fr 64 0).2,aHQ λb hb=>((Am fr 64 0).1 b hb).1⟩
theorem Hf (fr:Nat->Bool) (n:Int):iI (canon fr) n↔0<=n/\n<64/\fr n.toNat=true:=by
 constructor
 ·rintro⟨b,hb,hi⟩
  exact((Am fr 64 0).1 b hb).1.in hi
 ·rintro⟨h1,h2,h3⟩
  have:=Va fr 64 0 (by omega) n.toNat (by omega) (by omega) h3;rwa[show((n.toNat:Nat):Int)=n by omega] at this
theorem aAO {l:List aH} (h:∀b∈l,okB b=true) {n:Int} (hc:iI l n):0<=n/\n<64:=by
 obtain⟨b,hb,hi⟩:=hc;obtain⟨h1,h2,_⟩:=bL (h b hb);unfold fP at hi;omega
theorem Ak {l:List aH} {fr:Nat->Bool} (h:Rp l) (hf:∀n:Nat,n<64->(iI l n↔fr n=true)):canon fr=l:=by
 refine aKi _ _ (vC fr) h λn=> ?_;rw[Hf];constructor
 ·rintro⟨h1,h2,h3⟩
  have:=(hf n.toNat (by omega)).2 h3;rwa[show((n.toNat:Nat):Int)=n by omega] at this
 ·intro hc
  obtain⟨h1,h2⟩:=aAO h.1 hc;refine⟨h1,h2,(hf n.toNat (by omega)).1 ?_⟩;rwa[show((n.toNat:Nat):Int)=n by omega]
theorem Bf {f g:Nat->Bool} (h:∀n,n<64->f n=g n):canon f=canon g:=by
 refine Ak (vC g) λn hn=> ?_;rw[Hf,h n hn];simp only[Int.toNat_natCast];exact⟨λh=>h.2.2,λh=>⟨by omega,by omega,h⟩⟩
def Af (b:aH) (n:Nat):Bool:=decide (b.a<=n)&&decide ((n:Int)<b.a+aX b.o)
def kC (l:List aH) (n:Nat):Bool:=l.any λb=>Af b n
theorem uT {b:aH} {n:Nat} :Af b n=true↔fP b n:=by simp[Af,fP]
theorem qM {l:List aH} {n:Nat} :kC l n=true↔iI l n:=by
 simp[kC,iI,uT]
def Du (x b:aH):Bool:=decide (x.a<b.a+aX b.o)&&decide (b.a<x.a+aX x.o)
def meets (l:List aH) (b:aH):Bool:=l.any λx=>Du x b
theorem aCc {x b:aH} :Du x b=false↔Cb x b:=by
 unfold Du Cb jR;rw[Bool.and_eq_false_iff,decide_eq_false_iff_not,decide_eq_false_iff_not];omega
theorem Si {l:List aH} {b:aH} :meets l b=false↔∀x∈l,Cb x b:=by
 unfold meets;rw[List.any_eq_false];exact⟨λh x hx=>aCc.1 (by simpa using h x hx),λh x hx=>by simp[aCc.2 (h x hx)]⟩
theorem aC1 {x b:aH} :Cb x b↔∀n,fP x n->¬fP b n:=by
 have:=dC x.o;have:=dC b.o;constructor
 ·intro h n h1 h2
  unfold Cb jR at h;unfold fP at h1 h2;omega
 ·intro h
  have h1:=h x.a (xM x);have h2:¬fP x b.a:=λhx=>h b.a hx (xM b);have h1:¬fP b x.a:=h1;unfold Cb jR;unfold fP at h1 h2;omega
theorem aG8 {l:List aH} {b:aH} :meets l b=false↔∀n,fP b n->¬iI l n:=by
 rw[Si];constructor
 ·rintro h n hn ⟨x,hx,hi⟩
  exact aC1.1 (h x hx) n hi hn
 ·intro h x hx
  exact aC1.2 λn hi hn=>h n hn ⟨x,hx,hi⟩
def yY (l:List aH):Nat->Int->Option aH
 |0,_=>none
 |f+1,o=>match l.find? (λb=>b.o==o) with
  |some b=>some b
  |none=>yY l f (o+1)
def Ls (l:List aH) (ord:Int):Option aH:=yY l (7 -ord).toNat ord
def aCm (l:List aH) (ord:Int) (i:Nat) (b:aH):Prop:=l[i]? =some b/\ord<=b.o/\∀j c,l[j]? =some c->ord<=c.o->b.o<=c.o/\(j<i->b.o<c.o)
theorem Xh {p:aH->Bool} :∀ {l:List aH} {i:Nat} {b:aH},l[i]? =some b->p b=true->(∀j c,j<i->l[j]? =some c->p c=false)->l.find? p=some b
 | [],i,b,h,_,_=>by simp at h
 |x::l,0,b,h,hp,_=>by
  simp at h;subst h;rw[List.find?_cons_of_pos hp]
 |x::l,i+1,b,h,hp,hn=>by
  rw[List.find?_cons_of_neg (by simp[hn 0 x (by omega) rfl])];exact Xh (by simpa using h) hp λj c hj hc=>hn (j+1) c (by omega) (by simpa using hc)
theorem aL2 {l:List aH} {ord:Int} {i:Nat} {b:aH} (h6:b.o<=6) (h:aCm l ord i b):Ls l ord=some b:=by
 obtain⟨h1,h2,h3⟩:=h;have:∀(f:Nat) (o:Int),ord<=o->o<=b.o->7<=o+f->yY l f o=some b:=by
  intro f
  induction f with
  |zero=>intro o _ _ _;omega
  |succ f ih=>
   intro o ho1 ho2 ho3;unfold yY;by_cases e:o=b.o
   ·rw[Xh h1 (by simp[e]) λj c hj hc=> ?_]
    by_cases hoc:ord<=c.o
    ·have:=(h3 j c hc hoc).2 hj
     simp;omega
    ·simp;omega
   ·rw[List.find?_eq_none.2 λc hc=> ?_]
    ·exact ih (o+1) (by omega) (by omega) (by omega)
    ·obtain⟨j,hj⟩:=List.getElem?_of_mem hc
     intro hco;have hco:c.o=o:=by simpa using hco
     have:=(h3 j c hj (by omega)).1;omega
 exact this _ _ (Int.le_refl _) h2 (by omega)
theorem aHR {l:List aH} {ord:Int} (h:∀c∈l,c.o<ord):Ls l ord=none:=by
 have:∀(f:Nat) (o:Int),ord<=o->yY l f o=none:=by
  intro f
  induction f with
  |zero=>intro o _;rfl
  |succ f ih=>
   intro o ho;unfold yY;rw[List.find?_eq_none.2 λc hc=> ?_]
   ·exact ih (o+1) (by omega)
   ·have:=h c hc
    simp;omega
 exact this _ _ (Int.le_refl _)
theorem Xu {l:List aH} :∀ {f:Nat} {o:Int} {b:aH},yY l f o=some b->b∈l/\o<=b.o
 |0,_,_,h=>by simp[yY] at h
 |f+1,o,b,h=>by
  unfold yY at h;cases hf:l.find? (λb=>b.o==o) with
  |some c=>
   rw[hf] at h;cases h;have:=List.find?_some hf;exact⟨List.mem_of_find?_eq_some hf,by simp at this;omega⟩
  |none=>
   rw[hf] at h;obtain⟨h1,h2⟩:=Xu h;exact⟨h1,by omega⟩
def takeC (l:List aH) (a ord:Int):List aH:=canon λn=>kC l n&& !Af ⟨a,ord⟩ n
def bQ (l:List aH) (ord:Int):List aH×Int×Int:=
 if kX l then(if 0<=ord/\ord<=6 then(match Ls l ord with
  |none=>([],0,4)
  |some b=>(takeC l b.a ord,b.a,0)) else([],0,2)) else([],0,1)
def Gz (l:List aH) (b:aH):List aH:=canon λn=>kC l n||Af b n
def mF (l:List aH) (b:aH):List aH×Int:=
 if kX l then(if okB b then(if meets l b then([],7) else(Gz l b,0)) else([],2)) else([],1)
theorem Ki:∀ {l:List aH} {i:Nat} {b:aH},l[i]? =some b->l.Perm (b::l.eraseIdx i)
 | [],i,b,h=>by simp at h
 |x::l,0,b,h=>by
  simp at h;subst h;exact List.Perm.refl _
 |x::l,i+1,b,h=>((Ki (l:=l) (i:=i) (by simpa using h)).cons x).trans (List.Perm.swap _ _ _)
def Xz (l:List aH) (a:Int) (out:List aH) (o:Int):Prop:=okB ⟨a,o⟩=true/\Bg out/\(∀x∈out,Cb x ⟨a,o⟩)/\∀n,iI out n\/fP ⟨a,o⟩ n↔iI l n
theorem Xz.start {l:List aH} (h:Rp l) {i:Nat} {b:aH} (hb:l[i]? =some b):Xz l b.a (l.eraseIdx i) b.o:=by
 have hp:l.Perm (b::l.eraseIdx i):=Ki hb;have hg:=h.good.perm hp;refine⟨hg.1 b (by simp),⟨λx hx=>hg.1 x (by simp[hx]),(List.pairwise_cons.1 hg.2.1).2,λx hx y hy=>hg.2.2 x (by simp[hx]) y (by simp[hy])⟩,λx hx=>aC2 ((List.pairwise_cons.1 hg.2.1).1 x hx),λn=> ?_⟩;rw[Lm hp,jI];exact Or.comm
theorem Ou {a o:Int} (h1:0<=o) (h2:o<=6) (h3:0<=a) (h4:a<=64 -aX o) (h5:a%aX o=0):okB ⟨a,o⟩=true:=by
 simp only[okB,Bool.and_eq_true,decide_eq_true_eq];exact⟨⟨⟨⟨h1,h2⟩,h3⟩,h4⟩,h5⟩
theorem aLI {a o:Int} (h:okB ⟨a,o⟩=true) (h0:0<o):aX o=2*aX (o -1)/\okB ⟨a,o -1⟩=true/\okB ⟨a+aX (o -1),o -1⟩=true/\eQ (a+aX (o -1)) (o -1)=a:=by
 obtain⟨h1,h2,h3,h4⟩:=bL h;simp only at h1 h2 h3 h4;rcases h4 with⟨e1,e2⟩|⟨e1,e2⟩|⟨e1,e2⟩|⟨e1,e2⟩|⟨e1,e2⟩|⟨e1,e2⟩|⟨e1,e2⟩
 ·omega
 all_goals
  rw[e2] at h2 h3;subst e1;refine⟨by simp[aX],Ou (by omega) (by omega) (by omega) (by simp[aX]<;>omega) (by simp[aX]<;>omega),Ou (by omega) (by omega) (by simp[aX]<;>omega) (by simp[aX]<;>omega) (by simp[aX]<;>omega),?_⟩;unfold eQ;rw[if_neg (by simp[aX]<;>omega)];omega
theorem aAz {out:List aH} {h:aH} (hg:Bg out) (hok:okB h=true) (hd:∀x∈out,Cb x h) (hb:h.o<6->∀x∈out,x≠⟨eQ h.a h.o,h.o⟩):Bg (out++ [h]):=by
 refine⟨λx hx=> ?_,List.pairwise_append.2 ⟨hg.2.1,by simp,λx hx y hy=> ?_⟩,λx hx y hy h6 e=> ?_⟩
 ·rcases List.mem_append.1 hx with hx|hx
  ·exact hg.1 x hx
  ·rw[List.mem_singleton.1 hx];exact hok
 ·rw[List.mem_singleton.1 hy];exact hd x hx
 ·rcases List.mem_append.1 hx with hx|hx<;>rcases List.mem_append.1 hy with hy|hy
  ·exact hg.2.2 x hx y hy h6 e
  ·rw[List.mem_singleton.1 hy] at e
   refine hb (by rw[e];exact h6) x hx ?_;have e1:h.a=eQ x.a x.o:=by rw[e]
   have e2:h.o=x.o:=by rw[e]
   rw[e1,e2,aAY (hg.1 x hx) h6]
  ·rw[List.mem_singleton.1 hx] at e h6
   exact hb h6 y hy e
  ·rw[List.mem_singleton.1 hx,List.mem_singleton.1 hy] at e
   have e1:h.a=eQ h.a h.o:=congrArg aH.a e;have:=dC h.o;unfold eQ at e1;split at e1<;>omega
theorem Xz.step {l:List aH} {a o:Int} {out:List aH} (h:Xz l a out o) (h0:0<o):Xz l a (out++ [⟨a+aX (o -1),o -1⟩]) (o -1):=by
 obtain⟨h1,h2,h3,h4⟩:=h;obtain⟨e1,e2,e3,e4⟩:=aLI h1 h0;have hp:=dC (o -1);refine⟨e2,aAz h2 e3 (λx hx=> ?_) (λ_ x hx e=> ?_),λx hx=> ?_,λn=> ?_⟩
 ·have:=h3 x hx
  have:=dC x.o;unfold Cb jR at*;simp only at*;omega
 ·simp only[e4] at e
  have:=h3 x hx;rw[e] at this;unfold Cb jR at this;simp only at this;omega
 ·rcases List.mem_append.1 hx with hx|hx
  ·have:=h3 x hx
   have:=dC x.o;unfold Cb jR at*;simp only at*;omega
  ·rw[List.mem_singleton.1 hx]
   unfold Cb jR;simp only;omega
 ·rw[<-h4 n,Xp,or_assoc]
  refine or_congr Iff.rfl ?_;simp only[iI,List.mem_singleton,exists_eq_left,fP];omega
theorem Xz.end {l:List aH} {a o:Int} {out:List aH} (h:Xz l a out o) {m:List aH} (hp:out.Perm m) (hs:m.Pairwise λx y=>x.a<=y.a):m=takeC l a o:=by
 obtain⟨h1,h2,h3,h4⟩:=h;refine(Ak ((h2.perm hp).sorted hs) λn hn=> ?_).symm;rw[Bool.and_eq_true,qM,Bool.not_eq_true',<-Bool.not_eq_true,uT,<-h4 n,<-Lm hp];constructor
 ·rintro hc
  obtain⟨x,hx,hi⟩:=id hc;exact⟨.inl hc,aC1.1 (h3 x hx) n hi⟩
 ·rintro⟨h|h,h5⟩
  ·exact h
  ·exact absurd h h5
def Tq (l:List aH) (b0:aH) (out:List aH) (b:aH):Prop:=okB b=true/\Bg out/\(∀x∈out,Cb x b)/\∀n,iI out n\/fP b n↔iI l n\/fP b0 n
theorem Tq.start {l:List aH} (h:Rp l) {b:aH} (hb:okB b=true) (hm:meets l b=false):Tq l b l b:=⟨hb,h.good,Si.1 hm,λn=>Iff.rfl⟩
theorem aCb {a o:Int} (h:okB ⟨a,o⟩=true) (h6:o<6):aX (o+1)=2*aX o/\okB ⟨min a (eQ a o),o+1⟩=true/\(eQ a o=a+aX o\/eQ a o=a -aX o):=by
 obtain⟨h1,h2,h3,h4⟩:=bL h;simp only at h1 h2 h3 h4;rcases h4 with⟨e1,e2⟩|⟨e1,e2⟩|⟨e1,e2⟩|⟨e1,e2⟩|⟨e1,e2⟩|⟨e1,e2⟩|⟨e1,e2⟩
 case inr.inr.inr.inr.inr.inr=>omega
 all_goals
  rw[e2] at h2 h3;subst e1;refine⟨by simp[aX],?_,?_⟩
  ·unfold eQ
   rw[e2];split<;>exact Ou (by omega) (by omega) (by omega) (by simp[aX]<;>omega) (by simp[aX]<;>omega)
  ·unfold eQ
   split<;>simp
theorem Tq.step {l:List aH} {b0 b:aH} {out:List aH} {k:Nat} (h:Tq l b0 out b) (h6:b.o<6) (hk:out[k]? =some ⟨eQ b.a b.o,b.o⟩):Tq l b0 (out.eraseIdx k) ⟨min b.a (eQ b.a b.o),b.o+1⟩:=by
 obtain⟨h1,h2,h3,h4⟩:=h;obtain⟨e1,e2,e3⟩:=aCb (a:=b.a) (o:=b.o) h1 h6;have hpos:=dC b.o;have hp:out.Perm (⟨eQ b.a b.o,b.o⟩::out.eraseIdx k):=Ki hk;have hg:=h2.perm hp;have hd:=(List.pairwise_cons.1 hg.2.1).1;refine⟨e2,⟨λx hx=>hg.1 x (by simp[hx]),(List.pairwise_cons.1 hg.2.1).2,λx hx y hy=>hg.2.2 x (by simp[hx]) y (by simp[hy])⟩,λx hx=> ?_,λn=> ?_⟩
 ·have q1:=hd x hx
  have q2:=h3 x (hp.mem_iff.2 (by simp[hx]));have:=dC x.o;unfold Cb jR at*;simp only at*;omega
 ·rw[<-h4 n,Lm hp,jI]
  have:fP ⟨min b.a (eQ b.a b.o),b.o+1⟩ n↔fP ⟨eQ b.a b.o,b.o⟩ n\/fP b n:=by
   unfold fP;simp only;omega
  rw[this];constructor
  ·rintro(h|h|h)
   ·exact .inl (.inr h)
   ·exact .inl (.inl h)
   ·exact .inr h
  ·rintro((h|h)|h)
   ·exact .inr (.inl h)
   ·exact .inl h
   ·exact .inr (.inr h)
theorem Tq.end {l:List aH} {b0 b:aH} {out:List aH} (h:Tq l b0 out b) (hn:b.o<6->∀x∈out,x≠⟨eQ b.a b.o,b.o⟩) {m:List aH} (hp:(out++ [b]).Perm m) (hs:m.Pairwise λx y=>x.a<=y.a):m=Gz l b0:=by
 obtain⟨h1,h2,h3,h4⟩:=h;refine(Ak (((aAz h2 h1 h3 hn).perm hp).sorted hs) λn hn=> ?_).symm;rw[Bool.or_eq_true,qM,uT,<-h4 n,<-Lm hp,Xp];simp[iI]
theorem aIh (l:List aH) (a o:Int):Rp (takeC l a o):=vC _
theorem aGB {l:List aH} (h:Rp l) (a o:Int) (n:Int):iI (takeC l a o) n↔iI l n/\¬fP ⟨a,o⟩ n:=by
 unfold takeC;rw[Hf,Bool.and_eq_true,qM,Bool.not_eq_true',<-Bool.not_eq_true,uT];constructor
 ·rintro⟨h1,h2,h3,h4⟩
  rw[show((n.toNat:Nat):Int)=n by omega] at h3 h4;exact⟨h3,h4⟩
 ·rintro⟨h3,h4⟩
  obtain⟨h1,h2⟩:=aAO h.1 h3;rw[show((n.toNat:Nat):Int)=n by omega];exact⟨h1,h2,h3,h4⟩
theorem aKM {l:List aH} {ord:Int} (h:(bQ l ord).2.2=0):Rp l/\0<=ord/\ord<=6/\(∃b,Ls l ord=some b/\b∈l/\ord<=b.o/\bQ l ord=(takeC l b.a ord,b.a,0)):=by
 unfold bQ at*;cases hr:kX l with
 |false=>rw[hr] at h;simp at h
 |true=>
  rw[hr,if_pos rfl] at h;rw[if_pos rfl];by_cases ho:0<=ord/\ord<=6
  ·rw[if_pos ho] at h⊢
   cases hb:Ls l ord with
   |none=>rw[hb] at h;simp at h
   |some b=>
    obtain⟨h1,h2⟩:=Xu hb;exact⟨wU hr,ho.1,ho.2,b,rfl,h1,h2,rfl⟩
  ·rw[if_neg ho] at h;simp at h
theorem aMf {b:aH} {ord:Int} (hb:okB b=true) (h0:0<=ord) (ho:ord<=b.o):okB ⟨b.a,ord⟩=true/\aX ord<=aX b.o:=by
 obtain⟨h1,h2,h3,h4⟩:=bL hb;have hs:(ord=0/\aX ord=1)\/(ord=1/\aX ord=2)\/(ord=2/\aX ord=4)\/(ord=3/\aX ord=8)\/(ord=4/\aX ord=16)\/(ord=5/\aX ord=32)\/(ord=6/\aX ord=64):=by
  have:ord=0\/ord=1\/ord=2\/ord=3\/ord=4\/ord=5\/ord=6:=by omega
  rcases this with e|e|e|e|e|e|e<;>rw[e]<;>simp[aX]
 have key:b.a<=64 -aX ord/\b.a%aX ord=0/\aX ord<=aX b.o:=by
  generalize aX ord=so at*;generalize aX b.o=sb at*;clear hb;rcases h4 with⟨e1,e2⟩|⟨e1,e2⟩|⟨e1,e2⟩|⟨e1,e2⟩|⟨e1,e2⟩|⟨e1,e2⟩|⟨e1,e2⟩<;>subst e2<;>rcases hs with⟨f1,f2⟩|⟨f1,f2⟩|⟨f1,f2⟩|⟨f1,f2⟩|⟨f1,f2⟩|⟨f1,f2⟩|⟨f1,f2⟩<;>subst f2<;>omega
 exact⟨Ou h0 (by omega) h1 key.1 key.2.1,key.2.2⟩
theorem aLC {b:aH} {ord:Int} (hs:aX ord<=aX b.o) {n:Int} (h:fP ⟨b.a,ord⟩ n):fP b n:=by
 unfold fP at*;simp only at h;omega
theorem Ub {l:List aH} {ord:Int} (h:(bQ l ord).2.2=0):Rp l/\Rp (bQ l ord).1/\okB ⟨(bQ l ord).2.1,ord⟩=true/\(∀n,iI (bQ l ord).1 n↔iI l n/\¬fP ⟨(bQ l ord).2.1,ord⟩ n)/\∀n,fP ⟨(bQ l ord).2.1,ord⟩ n->iI l n:=by
 obtain⟨hr,h0,h6,b,hb,hm,ho,e⟩:=aKM h;rw[e];obtain⟨h1,h2⟩:=aMf (hr.1 b hm) h0 ho;exact⟨hr,aIh _ _ _,h1,aGB hr _ _,λn hn=>⟨b,hm,aLC h2 hn⟩⟩
theorem aLK {l:List aH} {b:aH} (hr:Rp l) (hb:okB b=true) (hm:meets l b=false):mF l b=(Gz l b,0):=by
 unfold mF;rw[Gr.2 hr,hb,hm];rfl
def aBB (l:List aH):Int:=(l.map λb=>aX b.o).sum
def cnt (p:Nat->Bool):Nat->Int
 |0=>0
 |n+1=>cnt p n+if p n then 1 else 0
theorem aEH {p q r:Nat->Bool} :∀ {n:Nat},(∀k<n,r k=(p k||q k)/\(p k&&q k)=false)->cnt r n=cnt p n+cnt q n
 |0,_=>rfl
 |n+1,h=>by
  unfold cnt;rw[aEH (λk hk=>h k (by omega))];obtain⟨h1,h2⟩:=h n (by omega);rw[h1];cases hp:p n<;>cases hq:q n<;>simp[hp,hq] at h2⊢ <;>omega
theorem aHM (b:aH) (h0:0<=b.a):∀n:Nat,cnt (Af b) n=max 0 (min (b.a+aX b.o) n -b.a)
 |0=>by have:=dC b.o;unfold cnt;omega
 |n+1=>by
  have:=dC b.o;unfold cnt;rw[aHM b h0 n];by_cases h:Af b n=true
  ·have h2:=uT.1 h
   rw[h,if_pos rfl];unfold fP at h2;omega
  ·have h2:¬fP b n:=λh3=>h (uT.2 h3)
   rw[if_neg h];unfold fP at h2;omega
theorem aNw {b:aH} (h:okB b=true):cnt (Af b) 64=aX b.o:=by
 obtain⟨h1,h2,_⟩:=bL h;have:=dC b.o;rw[aHM b h1];have:((64:Nat):Int)=64:=rfl;omega
theorem aC7:∀n,cnt (λ_=>false) n=0
 |0=>rfl
 |n+1=>by simp[cnt,aC7 n]
theorem aEG:∀ {l:List aH},Rp l->aBB l=cnt (kC l) 64
 | [],_=>(aC7 64).symm
 |x::l,h=>by
  rw[aEH (p:=Af x) (q:=kC l) λk hk=>⟨by simp[kC],?_⟩,<-aEG h.tail,aNw (h.1 x (by simp))]
  ·simp[aBB]
  ·rw[Bool.and_eq_false_iff]
   by_cases hx:Af x k=true
   ·right
    rw[<-Bool.not_eq_true,qM];rintro⟨y,hy,hi⟩;exact Kv (h.head y hy) (uT.1 hx) hi
   ·left;simpa using hx
def Kt:List aH:=[⟨0,6⟩]
theorem aMG:Rp Kt:=Gr.1 (by decide)
theorem aLj (n:Int):iI Kt n↔0<=n/\n<64:=by
 simp[iI,Kt,fP,aX]
end Go.Proofs.YtoogfmbojlpjaaaGreat
