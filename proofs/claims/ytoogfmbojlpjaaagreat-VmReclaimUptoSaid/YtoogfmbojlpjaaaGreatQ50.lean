/- Lemmas. -/
import Derived.Test.YtoogfmbojlpjaaaGreatQ49
import Derived.Test.YtoogfmbojlpjaaaGreatQ48
import Derived.Test.YtoogfmbojlpjaaaGreatQ32
import Derived.Test.YtoogfmbojlpjaaaGreatQ6
import Derived.Shelf.Abstract
import Derived.Test.YtoogfmbojlpjaaaGreatQ1
import Derived.Test.YtoogfmbojlpjaaaGreatQ7
import Derived.Test.YtoogfmbojlpjaaaGreatQA
set_option maxRecDepth 100000
set_option maxHeartbeats 32000000
set_option linter.unusedVariables false
set_option linter.unusedSimpArgs false
namespace Go.Proofs.YtoogfmbojlpjaaaGreat
section
theorem aAd (f:gT->Int):∀l:List gT,(l.map f).sum=aM (λi=>f (l.getD i default)) l.length:=by
 intro l;have:l.map f=(List.range l.length).map λi=>f (l.getD i default):=by
  refine List.ext_getElem (by simp) λi h1 h2=> ?_;simp only[List.length_map] at h1;simp[List.getD,List.getElem?_eq_getElem h1]
 rw[this,yB]
section
variable {v:Vm}
theorem aDW (h:dX v ze ze []):0<=jJ v/\jJ v<=64/\0<=kU v/\kU v<=64:=by
 unfold jJ kU;rw[yB,aAd,h.F.dl];have a:=fV (f:=λ_=>0) (g:=λn=>min (v.rf n) 1) (n:=64) λi hi=>by have:=h.V9 Ik i hi;omega
 have b:=fV (f:=λn=>min (v.rf n) 1) (g:=λ_=>1) (n:=64) λi hi=>by omega
 have c:=fV (f:=λ_=>0) (g:=λn=>min (v.dv.getD n default).r 1) (n:=64) λi hi=>by have:=(h.sr0 i hi).1;unfold eB sl at this;omega
 have d:=fV (f:=λn=>min (v.dv.getD n default).r 1) (g:=λ_=>1) (n:=64) λi hi=>by omega
 rw[fZ] at a c;rw[wP] at b d;exact⟨a,b,c,d⟩
def Ky (v:Vm):Int:=aM (λk=>ind ((v.ps k).live=true)) 4
theorem aLt (h:dX v ze ze []):Ky v<=jJ v:=by
 have A:=h.A;have h1:aM (λf=>aM (λk=>ind ((v.ps k).live=true/\(v.ps k).root=((f:Nat):Int))) 4) 64<=aM (λf=>min (v.rf f) 1) 64:=fV λf hf=>by
  by_cases c:∃k,k<4/\(v.ps k).live=true/\(v.ps k).root=((f:Nat):Int)
  ·obtain⟨k,hk,hv,hr⟩:=c
   rw[nX hk (λi hi hne=>aY λhh=>hne (by
    have e1:=pV hh.1;have e2:=pV hv;have:=A.td (9*i) (by omega) (9*k) (by omega) (by rw[e1,e2,hh.2,hr]) (by rw[e1,hh.2];omega)
    omega)),bP ⟨hv,hr⟩]
   have e2:=pV hv;have:=(A.tf (9*k) (by omega) (by rw[e2,hr];omega)).2;rw[e2,hr,Int.toNat_natCast] at this;rw[this];exact Int.le_refl _
  ·rw[dM (g:=λ_=>0) (λk hk=>aY λhh=>c ⟨k,hk,hh⟩),fZ]
   have:=h.V9 Ik f hf;omega
 rw[rO (λf k=>ind ((v.ps k).live=true/\(v.ps k).root=((f:Nat):Int)))] at h1;have h2:Ky v<=aM (λk=>aM (λf=>ind ((v.ps k).live=true/\(v.ps k).root=((f:Nat):Int))) 64) 4:=fV λk hk=>by
  by_cases c:(v.ps k).live=true
  ·have:=h.T.root k hk c
   rw[bP c,nX (j:=(v.ps k).root.toNat) (by omega) (λi hi hne=>aY λhh=>hne (by have:=hh.2;omega)),bP ⟨c,by omega⟩];exact Int.le_refl _
  ·rw[aY c]
   exact wQ λi _=>(dS _).1
 unfold jJ;rw[yB];omega
theorem aKG (h:dX v ze ze []) {k:Nat} (hk:k<4) (hv:(v.ps k).live=true):1<=jJ v:=by
 have a:=aLt h;have b:=Dz (f:=λk=>ind ((v.ps k).live=true)) hk (λi _=>(dS _).1);simp only[bP hv] at b;unfold Ky at a;omega
end
def G8 (k:Int):aL:=⟨9,k,0,0,0,0,false,0,0,0,0,0⟩
end
end Go.Proofs.YtoogfmbojlpjaaaGreat
namespace Go.Proofs.YtoogfmbojlpjaaaGreat
open Go.ChangeShapes Go.WideShapes Go.ChangeAt Go.RowKit Go.Joins Go.Sort
def Qn:List aL:=[⟨1,0,0,2,3,0,false,0,0,0,0,0⟩,⟨11,0,0,0,0,0,false,0,62,4,77,0⟩,⟨14,0,0,9,0,0,false,0,0,0,0,0⟩,⟨10,0,0,0,0,0,false,0,62,1,0,0⟩]
theorem aLx:(dI Qn).2.length=4/\(dI Qn).2[3]? =some ⟨0,77,0,0⟩:=by decide+kernel
theorem aIO:((dI Qn).1 0).live=true:=by decide+kernel
theorem aLw:1<=jJ (bS Qn).1:=by
 obtain⟨S,_⟩:=oC Qn;exact aKG S.co (k:=0) (by omega) (by rw[(S.eq 0 (by omega)).1];exact aIO)
abbrev c15:Array Value:= #[.int .i64 1,.int .i64 0,.int .i64 0,.int .i64 2,.int .i64 3,.int .i64 0,.bool false,.int .i64 0,.int .i64 0,.int .i64 0,.int .i64 0,.int .i64 0,.int .i64 11,.int .i64 0,.int .i64 0,.int .i64 0,.int .i64 0,.int .i64 0,.bool false,.int .i64 0,.int .i64 62,.int .i64 4,.int .i64 77,.int .i64 0,.int .i64 14,.int .i64 0,.int .i64 0,.int .i64 9,.int .i64 0,.int .i64 0,.bool false,.int .i64 0,.int .i64 0,.int .i64 0,.int .i64 0,.int .i64 0,.int .i64 10,.int .i64 0,.int .i64 0,.int .i64 0,.int .i64 0,.int .i64 0,.bool false,.int .i64 0,.int .i64 62,.int .i64 1,.int .i64 0,.int .i64 0]
theorem aKW {α:Type} {f:α->List Value} {sz:Nat} (hf:∀x,(f x).length=sz) {T:TypeId} {w:World} {g:Nat} {xs:List α} (h:Bx w g T (xs.flatMap f).toArray) (hl:xs.length<=maxLen):Rw f sz w w.heap.size (some ⟨g,0,none⟩) xs.length xs:=
 ⟨rfl,hl,λ_=>⟨g,0,rfl,h.lt,λi x hx j v hv=>by
   have hj:j<sz:=by have:=(List.getElem?_eq_some_iff.1 hv).1;rwa[hf] at this
   rw[h.cell,Nat.zero_add,List.getElem?_toArray,vM hf xs i x hx j hj,hv]⟩⟩
theorem Vv {w:World} {base:Nat} {v:Value} {l:List bX} (h:Os Gl 4 35 w base v l) (h0:0<l.length):∃g c,v=.slice (some ⟨g,0,none⟩) l.length c/\g<w.heap.size/\∀i a,l[i]? =some a->∀j u,(Gl a)[j]? =some u->w.cell? ⟨g,i*4+j,none⟩=some u:=by
 obtain⟨g,c,e,_,_,_⟩:=zZ h h0;subst e;obtain⟨A,c',e,_,_,hr⟩:=h.row tV;injection e with e1 e2 e3;subst e1;obtain⟨b,o,e,hb⟩:=hr.open h0;injection e with e;injection e with e1 e2;subst e1 e2;exact⟨_,c,rfl,hb,λi a ha j u hu=>by have:=hr.at_ tV ha j u hu;rwa[Nat.zero_add] at this⟩
theorem Io (w:World):Calls Tryz.prog 10 #[] w λe w'=>e=.returned (.bool true)/\Below w.heap.size w w':=by
 have HB0:=hZ (aD w (.cells c15 26));have HRW:=hZ (aKW (f:=vfO) (sz:=12) aDV (w:=w.alloc (.cells c15 26)) (T:=26) (g:=w.heap.size) (xs:=Qn) (Bx.new _ _ _) (by decide))
 have Qt:=hZ (J3 (some ⟨w.heap.size,0,none⟩) 4 4 Qn (w.alloc (.cells c15 26)) _ HRW.out (nR _) (by decide) (by
  intro x hx;simp only[Qn,List.mem_cons,List.not_mem_nil,or_false] at hx
  rcases hx with rfl|rfl|rfl|rfl<;>(unfold aL.fits eG;simp)) (Q8 _))
 go_enter Tryz.func10,Tryz.ntmps10
 go_wp2_with(first
  |(go_at_call 12
    refine Qt.out.mono ?_;rintro e w2 ⟨va,rfl,ha,hb2⟩;have hq:=aLw;generalize jJ (bS Qn).1=uf at*;generalize kU (bS Qn).1=us at*;rw[(oC Qn).2] at ha;obtain⟨hl,h3⟩:=aLx;obtain⟨g,c,rfl,hg,hc⟩:=Vv ha (by omega);rw[hl];have d0:w2.cell? ⟨g,13,none⟩=some (.int .i64 77):=hc 3 _ h3 1 _ rfl;have HS:Hid ((#[.int .i64 uf,.int .i64 us]:Array Value).size=2):=hZ rfl;have HO:Hid ((#[.int .i64 uf,.int .i64 us]:Array Value).all (·.oneCell')=true):=hZ (by simp[Value.oneCell']);have HB2:=hZ (HB0.out.trans (hb2.mono HB0.out.size));have k0:(w2.alloc (.cells #[.int .i64 uf,.int .i64 us] 29)).cell? ⟨w2.heap.size,0,none⟩=some (.int .i64 uf):=by rw[(Bx.new _ _ _).cell];rfl
    have hq2:decide (1<=uf)=true:=decide_eq_true hq
    clear ha hc h3 hb2)
  |((with_reducible refine uM tJ #[.int .i64 uf,.int .i64 us] ?_ ?_ rfl HS.out HO.out ?_);rfl;rfl))
 go_ret;exact⟨bH rfl,HB2.out.trans ((aD _ _).mono HB2.out.size)⟩
theorem Tx {w:World} {B:Nat} {v:Value} {xs:List aL} (h:Os fO 12 26 w B v xs) (hl:xs.length<=4398046511103) (hf:∀x∈xs,x.fits):Calls Tryz.prog 12 #[v] w (vR w xs):=by
 obtain⟨A',c',rfl,h1,h2,h3⟩:=h.row uZ;exact J3 A' _ c' xs w _ h3 (nR _) hl hf (Q8 xs)
end Go.Proofs.YtoogfmbojlpjaaaGreat
namespace Go.Proofs.YtoogfmbojlpjaaaGreat
section
inductive Ins (ops:List aL):Nat->List aL->Prop
 |nil:Ins ops 0 []
 |skip {m:Nat} {ys:List aL} {r:aL} :Ins ops m ys->r.kind=14->Ins ops m (ys++ [r])
 |keep {m:Nat} {ys:List aL} {o:aL} :Ins ops m ys->ops[m]? =some o->Ins ops (m+1) (ys++ [o])
def xP (a b:aL):Bool:=a.kind==b.kind&&a.proc==b.proc&&a.page==b.page&&a.count==b.count&&a.eZ==b.eZ&&a.key==b.key&&a.tagged==b.tagged&&a.draw==b.draw&&a.addr==b.addr&&a.size==b.size&&a.value==b.value&&a.tag==b.tag
theorem aLT {a b:aL} :xP a b=true↔a=b:=by
 cases a;cases b;simp[xP,and_assoc]
def Dl (ops:List aL) (k:Nat) (o:aL):Bool:=match ops[k]? with
 |some p=>xP o p
 |none=>false
def eP (ops ys:List aL) (b:List bX):Nat->List bX×Nat
 |0=>([],0)
 |i+1=>if Dl ops (eP ops ys b i).2 (ys.getD i (G8 0))=true then((eP ops ys b i).1++ [b.getD i (aB 0)],(eP ops ys b i).2+1) else eP ops ys b i
theorem Gg {ops:List aL} {k:Nat} {o:aL} :Dl ops k o=true↔ops[k]? =some o:=by
 unfold Dl;cases h:ops[k]? with
 |none=>simp
 |some p=>rw[aLT];exact⟨λe=>by rw[e],λe=>(Option.some.inj e).symm⟩
structure Lv (ops ys:List aL) (m i:Nat):Prop where
 w:(dI (ys.take i)).1=(dI (ops.take m)).1
 a:(eP ops ys (dI ys).2 i).1=(dI (ops.take (eP ops ys (dI ys).2 i).2)).2
 l:m<=(eP ops ys (dI ys).2 i).2
 u:(eP ops ys (dI ys).2 i).2<=ops.length
 r:∀j o,m<=j->j<(eP ops ys (dI ys).2 i).2->ops[j]? =some o->o.kind=14
theorem Rq (W:Fw) {o:aL} (h:o.kind=14):mW W o=(W,aB 0):=by unfold mW;rw[if_neg (by omega),if_pos h]
theorem Gq (l:List aL):(dI l).2.length=l.length:=by unfold dI;rw[aKX];simp
theorem aD8 (ys:List aL) {i:Nat} (hi:i<ys.length):(dI ys).2.getD i (aB 0)=(mW (dI (ys.take i)).1 ys[i]).2:=by
 have key:∀n,n<=ys.length->i<n->(dI (ys.take n)).2.getD i (aB 0)=(mW (dI (ys.take i)).1 ys[i]).2:=by
  intro n
  induction n with
  |zero=>intro _ h;omega
  |succ n ih=>
   intro hn hin;rw[List.take_succ_eq_append_getElem (show n<ys.length by omega),p9];show((dI (ys.take n)).2++ [_]).getD i (aB 0)=_;have hl:(dI (ys.take n)).2.length=n:=by rw[Gq,List.length_take];omega
   by_cases c:i<n
   ·rw[<-ih (by omega) c]
    simp only[List.getD_eq_getElem?_getD];rw[List.getElem?_append_left (by omega)]
   ·obtain rfl:i=n:=by omega
    simp only[List.getD_eq_getElem?_getD];rw[List.getElem?_append_right (by omega),hl];simp
 have:=key ys.length (nR _) hi;rwa[List.take_length] at this
section
variable {ops ys:List aL} {m i:Nat}
theorem Lv.skip (h:Lv ops ys m i) {r:aL} (hr:ys[i]? =some r) (hk:r.kind=14):Lv ops ys m (i+1):=by
 obtain⟨hi,he⟩:=List.getElem?_eq_some_iff.1 hr;have hw:(dI (ys.take (i+1))).1=(dI (ops.take m)).1:=by
  rw[List.take_succ_eq_append_getElem hi,p9,he,Rq _ hk];exact h.w
 have ha:(dI ys).2.getD i (aB 0)=aB 0:=by rw[aD8 ys hi,he,Rq _ hk]
 have hd:ys.getD i (G8 0)=r:=by rw[List.getD_eq_getElem?_getD,hr];rfl
 by_cases c:Dl ops (eP ops ys (dI ys).2 i).2 (ys.getD i (G8 0))=true
 ·have e:eP ops ys (dI ys).2 (i+1)=((eP ops ys (dI ys).2 i).1++ [(dI ys).2.getD i (aB 0)],(eP ops ys (dI ys).2 i).2+1):=by rw[eP,if_pos c]
  have h1:=h.a;have h2:=h.l;have h3:=h.r;rw[hd] at c;have c1:=(Gg.1 c).symm;have c2:=(List.getElem?_eq_some_iff.1 c1.symm).1;refine⟨hw,?_,by rw[e];show m<=_+1;omega,by rw[e];exact c2,λj o hj hj2 ho=> ?_⟩
  ·rw[e]
   show _++ [_]=(dI (ops.take (_+1))).2;rw[List.take_succ_eq_append_getElem c2,p9,ha,h1];have:ops[(eP ops ys (dI ys).2 i).2]=r:=by
    have:=(List.getElem?_eq_getElem c2).symm.trans c1.symm;exact Option.some.inj this
   rw[this,Rq _ hk]
  ·rw[e] at hj2
   by_cases d:j<(eP ops ys (dI ys).2 i).2
   ·exact h3 j o hj d ho
   ·have C8:j<(eP ops ys (dI ys).2 i).2+1:=hj2
    obtain rfl:j=(eP ops ys (dI ys).2 i).2:=by omega
    rw[ho] at c1;rw[<-Option.some.inj c1];exact hk
 ·have e:eP ops ys (dI ys).2 (i+1)=eP ops ys (dI ys).2 i:=by rw[eP,if_neg c]
  exact⟨hw,by rw[e];exact h.a,by rw[e];exact h.l,by rw[e];exact h.u,λj o hj hj2 ho=>by rw[e] at hj2;exact h.r j o hj hj2 ho⟩
theorem Lv.keep (h:Lv ops ys m i) {o:aL} (hr:ys[i]? =some o) (ho:ops[m]? =some o):Lv ops ys (m+1) (i+1):=by
 obtain⟨hi,he⟩:=List.getElem?_eq_some_iff.1 hr;obtain⟨hm,hme⟩:=List.getElem?_eq_some_iff.1 ho;by_cases d:(eP ops ys (dI ys).2 i).2=m
 ·have hw:(dI (ys.take (i+1))).1=(dI (ops.take (m+1))).1:=by
   rw[List.take_succ_eq_append_getElem hi,List.take_succ_eq_append_getElem hm,p9,p9,he,hme,h.w]
  have ha:(dI ys).2.getD i (aB 0)=(mW (dI (ops.take m)).1 o).2:=by rw[aD8 ys hi,he,h.w]
  have e:eP ops ys (dI ys).2 (i+1)=((eP ops ys (dI ys).2 i).1++ [(dI ys).2.getD i (aB 0)],(eP ops ys (dI ys).2 i).2+1):=by rw[eP,if_pos (Gg.2 (by rw[d,List.getD_eq_getElem?_getD,hr];exact ho))]
  refine⟨hw,?_,by rw[e];show m+1<=_+1;omega,by rw[e];show _+1<=_;omega,λj o' hj hj2 ho'=> ?_⟩
  ·rw[e]
   show _++ [_]=(dI (ops.take (_+1))).2;rw[d,List.take_succ_eq_append_getElem hm,p9,ha,h.a,d,hme]
  ·rw[e] at hj2
   have C8:j<(eP ops ys (dI ys).2 i).2+1:=hj2;omega
 ·have hl:=h.l
  have hk:o.kind=14:=h.r m o (nR _) (by omega) ho;have s:=h.skip hr hk;have hs:(eP ops ys (dI ys).2 i).2<=(eP ops ys (dI ys).2 (i+1)).2:=by
   rw[eP];split
   ·exact Nat.le_succ _
   ·exact nR _
  refine⟨?_,s.a,by omega,s.u,λj o' hj=>s.r j o' (by omega)⟩;rw[s.w,List.take_succ_eq_append_getElem hm,p9,hme,Rq _ hk]
theorem Ins.lef {zs:List aL} (h:Ins ops m zs):zs<+:ys->Lv ops ys m zs.length:=by
 induction h with
 |nil=>intro _;exact⟨rfl,rfl,nR _,Nat.zero_le _,λj o _ hj=>by cases hj⟩
 | @skip m zs r _ hk ih=>
   intro hp;have h1:=ih ((List.prefix_append zs [r]).trans hp);rw[List.length_append];refine h1.skip ?_ hk;obtain⟨t,ht⟩:=hp;rw[<-ht];simp
 | @keep m zs o _ ho ih=>
   intro hp;have h1:=ih ((List.prefix_append zs [o]).trans hp);rw[List.length_append];refine h1.keep ?_ ho;obtain⟨t,ht⟩:=hp;rw[<-ht];simp
end
theorem aLu {ops ys:List aL} (h:Ins ops ops.length ys):(eP ops ys (bS ys).2 ys.length).1=(bS ops).2:=by
 have L:=h.lef (List.prefix_refl ys);rw[(oC ys).2,(oC ops).2,L.a];have a:=L.l;have b:=L.u;rw[show(eP ops ys (dI ys).2 ys.length).2=ops.length by omega,List.take_length]
end
def Y3 (v:Int):aL:=⟨14,0,0,v,0,0,false,0,0,0,0,0⟩
def mK (z1 z2:List Int) (k:Nat):Nat->List aL
 |0=>[]
 |i+1=>mK z1 z2 k i++if z1.getD i 0=(k:Int)/\i<z2.length then [Y3 (z2.getD i 0)] else []
def qJ (xs:List aL) (z1 z2:List Int):Nat->List aL
 |0=>[]
 |k+1=>qJ xs z1 z2 k++mK z1 z2 k z1.length++ [xs.getD k (G8 0)]
theorem aIR {z1 z2:List Int} {k i:Nat} {u v:Int} (hu:z1[i]? =some u) (hv:z2[i]? =some v) (h:u=(k:Int)):mK z1 z2 k (i+1)=mK z1 z2 k i++ [Y3 v]:=by
 rw[mK,if_pos ⟨by rw[List.getD_eq_getElem?_getD,hu];exact h,(List.getElem?_eq_some_iff.1 hv).1⟩,List.getD_eq_getElem?_getD,hv];rfl
theorem aEu {z1 z2:List Int} {k i:Nat} {u:Int} (hu:z1[i]? =some u) (h:¬(u=(k:Int)/\i<z2.length)):mK z1 z2 k (i+1)=mK z1 z2 k i:=by
 rw[mK,if_neg (by rw[List.getD_eq_getElem?_getD,hu];exact h),List.append_nil]
theorem aIS {ops:List aL} {m:Nat} {ys:List aL} (h:Ins ops m ys) (z1 z2:List Int) (k:Nat):∀i,Ins ops m (ys++mK z1 z2 k i):=by
 intro i
 induction i with
 |zero=>rw[mK,List.append_nil];exact h
 |succ i ih=>
  rw[mK];split
  ·rw[<-List.append_assoc];exact ih.skip rfl
  ·rw[List.append_nil];exact ih
theorem aH1 (xs:List aL) (z1 z2:List Int):∀k,k<=xs.length->Ins xs k (qJ xs z1 z2 k):=by
 intro k
 induction k with
 |zero=>intro _;exact .nil
 |succ k ih=>
  intro hk;rw[qJ];refine(aIS (ih (by omega)) z1 z2 k _).keep ?_;rw[List.getD_eq_getElem?_getD,List.getElem?_eq_getElem (show k<xs.length by omega)];rfl
theorem aCn (z1 z2:List Int) (k:Nat):∀i,(mK z1 z2 k i).length<=i:=by
 intro i
 induction i with
 |zero=>exact nR _
 |succ i ih=>
  rw[mK,List.length_append];split
  ·simp only[List.length_cons,List.length_nil];omega
  ·simp only[List.length_nil];omega
theorem aH0 (xs:List aL) (z1 z2:List Int):∀k,(qJ xs z1 z2 k).length<=k*(z1.length+1):=by
 intro k
 induction k with
 |zero=>exact Nat.zero_le _
 |succ k ih=>
  have:=aCn z1 z2 k z1.length;rw[qJ,List.length_append,List.length_append,Nat.succ_mul];simp only[List.length_cons,List.length_nil];omega
theorem aHu {v:Int} (h:eG v):(Y3 v).fits:=by unfold aL.fits Y3;unfold eG at*;simp;omega
theorem aHg {z1 z2:List Int} (h:∀z∈z2,eG z) (k:Nat):∀i,∀x∈mK z1 z2 k i,x.fits:=by
 intro i
 induction i with
 |zero=>intro x hx;cases hx
 |succ i ih=>
  intro x hx;rw[mK] at hx;rcases List.mem_append.1 hx with hx|hx
  ·exact ih x hx
  ·split at hx
   ·rename_i hc
    rw[List.mem_singleton.1 hx];refine aHu (h _ ?_);rw[List.getD_eq_getElem?_getD,List.getElem?_eq_getElem hc.2];exact List.getElem_mem _
   ·cases hx
theorem aGe {xs:List aL} {z1 z2:List Int} (hx:∀x∈xs,x.fits) (h:∀z∈z2,eG z):∀k,k<=xs.length->∀x∈qJ xs z1 z2 k,x.fits:=by
 intro k
 induction k with
 |zero=>intro _ x hx;cases hx
 |succ k ih=>
  intro hk x hxm;rw[qJ] at hxm;rcases List.mem_append.1 hxm with h1|h1
  ·rcases List.mem_append.1 h1 with h1|h1
   ·exact ih (by omega) x h1
   ·exact aHg h k _ x h1
  ·rw[List.mem_singleton.1 h1,List.getD_eq_getElem?_getD,List.getElem?_eq_getElem (show k<xs.length by omega)]
   exact hx _ (List.getElem_mem _)
theorem aLv (ops ys:List aL) (b:List bX):∀i,(eP ops ys b i).1.length=(eP ops ys b i).2/\(eP ops ys b i).2<=i/\(eP ops ys b i).2<=ops.length:=by
 intro i
 induction i with
 |zero=>exact⟨rfl,nR _,Nat.zero_le _⟩
 |succ i ih=>
  rw[eP];split
  ·rename_i h
   have:=(List.getElem?_eq_some_iff.1 (Gg.1 h)).1;refine⟨?_,?_,this⟩
   ·show(_++ [_]).length=_+1
    rw[List.length_append,ih.1];rfl
   ·show _+1<=i+1;omega
  ·exact⟨ih.1,by omega,ih.2.2⟩
end Go.Proofs.YtoogfmbojlpjaaaGreat
namespace Go.Proofs.YtoogfmbojlpjaaaGreat
open Go.ChangeShapes Go.WideShapes Go.ChangeAt Go.RowKit Go.Joins
theorem aLQ (A1 A2:Option Addr) (n1 c1 n2 c2:Nat) (xs ys:List bX) (w:World) (B:Nat) (h1:Rw Gl 4 w B A1 n1 xs) (h2:Rw Gl 4 w B A2 n2 ys) (hB:B<=w.heap.size) (m1:n1<=140737488355328) (m2:n2<=140737488355328):
 Calls Tryz.prog 14 #[.slice A1 n1 c1,.slice A2 n2 c2] w λe w'=>e=.returned (.bool (wK vN xs ys))/\Below w.heap.size w w':=by
 have l1:=h1.1;have l2:=h2.1;by_cases hn:n1=n2
 ·subst hn
  have HA:=hZ (Oi vN xs ys (by omega));have HN:=hZ (aBN vN xs ys);have HX:=hZ (λ(i:Nat) (hi:i<n1)=>(⟨xs[i]'(by omega),List.getElem?_eq_getElem _⟩:∃x,xs[i]? =some x));have HY:=hZ (λ(i:Nat) (hi:i<n1)=>(⟨ys[i]'(by omega),List.getElem?_eq_getElem _⟩:∃y,ys[i]? =some y));have HL:=hZ l1;clear l1 l2;generalize wK vN xs ys=r at*;have H1:=hZ h1;have H2:=hZ h2;clear h1 h2;rcases Nat.eq_zero_or_pos n1 with h0|h0
  ·subst h0
   have hx:((0:Int) !=0)=false:=rfl;go_enter Tryz.func14,Tryz.ntmps14;go_wp2
   go_loop [13] (λi=>i=.int .i64 0) (λi=>1 - (intOf i).toNat)
   case atStart=>exact rfl
   case round=>
    subst hrel;go_wp2;go_ret;exact⟨bH (HA.out λk x y hk _ _=>by have:=HL.out;omega).symm,Below.refl _ _⟩
  ·obtain⟨b1,o1,rfl,_⟩:=H1.out.open h0
   obtain⟨b2,o2,rfl,_⟩:=H2.out.open h0;go_enter Tryz.func14,Tryz.ntmps14;go_wp2;go_loopw [13] (λi wr=>∃k:Nat,k<=n1/\i=.int .i64 k/\Hid (Below w.heap.size w wr)/\Hid (∀j x y,j<k->xs[j]? =some x->ys[j]? =some y->vN x y=true)) (λi _=>n1 - (intOf i).toNat)
   case atStart=>exact⟨0,by omega,rfl,hZ (Below.refl _ _),hZ (λj x y hj=>absurd hj (Nat.not_lt_zero _))⟩
   case round=>
    obtain⟨k,hk,rfl,HB,HS⟩:=hrel;by_cases hlt:k<n1
    ·obtain⟨x,hx⟩:=HX.out k hlt
     obtain⟨y,hy⟩:=HY.out k hlt;have hcx:=(H1.out.below (HB.out.mono hB)).at_ tV hx;have hcy:=(H2.out.below (HB.out.mono hB)).at_ tV hy;have x0:wr.cell? ⟨b1,o1+k*4,none⟩=some (.int .i64 x.err):=hcx 0 _ rfl;have x1:wr.cell? ⟨b1,o1+k*4+1,none⟩=some (.int .i64 x.value):=hcx 1 _ rfl;have x2:wr.cell? ⟨b1,o1+k*4+2,none⟩=some (.int .i64 x.fault):=hcx 2 _ rfl;have x3:wr.cell? ⟨b1,o1+k*4+3,none⟩=some (.int .i64 x.pos):=hcx 3 _ rfl;have y0:wr.cell? ⟨b2,o2+k*4,none⟩=some (.int .i64 y.err):=hcy 0 _ rfl;have y1:wr.cell? ⟨b2,o2+k*4+1,none⟩=some (.int .i64 y.value):=hcy 1 _ rfl;have y2:wr.cell? ⟨b2,o2+k*4+2,none⟩=some (.int .i64 y.fault):=hcy 2 _ rfl;have y3:wr.cell? ⟨b2,o2+k*4+3,none⟩=some (.int .i64 y.pos):=hcy 3 _ rfl;have hk0:(0:Int)<=(k:Int):=by omega
     have hkn:(k:Int)<(n1:Int):=by omega
     have Yd:=hZ hx;have HYY:=hZ hy;clear hx hy hcx hcy;have heq:∀w,(Op.equalIn 10000 35 (.agg #[.int .i64 x.err,.int .i64 x.value,.int .i64 x.fault,.int .i64 x.pos]) (.agg #[.int .i64 y.err,.int .i64 y.value,.int .i64 y.fault,.int .i64 y.pos])).run Tryz.prog w=.ok (vN x y) w:=aGU x y;cases hq:vN x y with
     |true=>
      rw[hq] at heq;have HQ:=hZ hq;clear hq;go_wp2
      go_quiet (fail)
      go_wp2;go_roundw
      case rel=>
       refine⟨k+1,by omega,by go_num,hZ (HB.out.trans (below_drewN _ _ _)),hZ (λj x' y' hj h1 h2=> ?_)⟩;by_cases e:j=k
       ·subst e
        rw[Yd.out] at h1;rw[HYY.out] at h2;cases h1;cases h2;exact HQ.out
       ·exact HS.out j x' y' (by omega) h1 h2
      case measure=>simp[intOf];omega
     |false=>
      rw[hq] at heq;have HQ:=hZ hq;clear hq;go_wp2
      go_quiet (fail)
      go_wp2;go_ret;exact⟨bH (HN.out k x y Yd.out HYY.out HQ.out).symm,HB.out.trans (below_drewN _ _ _)⟩
    ·have wD:k=n1:=by omega
     subst wD;go_wp2;go_ret;exact⟨bH (HA.out λj x y hj h1 h2=>HS.out j x y (by have:=HL.out;omega) h1 h2).symm,HB.out⟩
 ·have HR:=hZ (aAf vN xs ys (by omega))
  have hne:((n1:Int) !=n2)=true:=by rw[bne_iff_ne];omega
  clear h1 h2 l1 l2;generalize wK vN xs ys=r at*;go_enter Tryz.func14,Tryz.ntmps14;go_wp2;go_ret;exact⟨bH HR.out.symm,Below.refl _ _⟩
end Go.Proofs.YtoogfmbojlpjaaaGreat
namespace Go.Proofs.YtoogfmbojlpjaaaGreat
open Go.ChangeShapes Go.WideShapes Go.ChangeAt Go.RowKit Go.Joins Go.Sort
section
section
variable {H:Type} {enc:TypeId×Value->H} {P:Program} {w:World} {base:Nat} {held:Bool}
theorem V6 {t e:TypeId} {k:IntKind} {A:Option Addr} {n c:Nat} {d:DataW H} {p:List MemPlace} (ht:P.underlying t=some (.slice e)) (he:P.underlying e=some (.int k)) (hC:P.cellsOf e=1)
 (h:DataW.Trod enc P w base (λ_=>true) held t (.slice A n c) d p):∃zs,Row k w w.heap.size A n zs/\(∀z∈zs,(Lit.int k z).wf=true)/\n<=c/\c<=maxLen:=by
 obtain⟨fuel,hf⟩:=h;rcases open_ints ht he hC hf with⟨hcs,_⟩|⟨x,l,c',zs,hcs,_,hl,hm,hz,_,hcell,hwz⟩
 ·simp[Value.cells] at hcs
  obtain⟨rfl,rfl,rfl⟩:=hcs;exact⟨[],⟨rfl,by simp,λh=>absurd h (by omega)⟩,λ_ h=>absurd h (by simp),by omega,by simp⟩
 ·simp[Value.cells] at hcs
  obtain⟨rfl,rfl,rfl⟩:=hcs;simp at hz;refine⟨zs.take n,⟨by simp;omega,by omega,λhn=> ?_⟩,λz hzz=>hwz z (List.mem_of_mem_take hzz),hl,hm⟩;obtain⟨b,off,spot⟩:=x;have hc0:=hcell 0 (by omega);have hspot:spot=none:=by simpa[Addr.add] using World.cell?_spot hc0
  subst hspot;have hc0':w.cell? ⟨b,off,none⟩=some (.int k (zs.getD 0 0)):=by simpa[Addr.add] using hc0
  refine⟨b,off,rfl,lt_of_cell hc0',λi hi=> ?_⟩;have hci:=hcell i (by omega);have e1:(Addr.add ⟨b,off,none⟩ i)=⟨b,off+i,none⟩:=by
   unfold Addr.add;split<;>simp_all
  rw[e1] at hci;rw[hci];congr 2;simp[List.getD,hi]
end
theorem aKZ (x y:aL) (w:World):(Op.equalIn 10000 26 (.agg (aZ x)) (.agg (aZ y))).run Tryz.prog w=.ok (xP x y) w:=by
 by_cases h0:x.kind=y.kind
 case neg=>simp[go_sem,Tryz.underlying26,Tryz.underlying3,Tryz.underlying4,aZ,xP,h0]
 by_cases h1:x.proc=y.proc
 case neg=>simp[go_sem,Tryz.underlying26,Tryz.underlying3,Tryz.underlying4,aZ,xP,h0,h1]
 by_cases h2:x.page=y.page
 case neg=>simp[go_sem,Tryz.underlying26,Tryz.underlying3,Tryz.underlying4,aZ,xP,h0,h1,h2]
 by_cases h3:x.count=y.count
 case neg=>simp[go_sem,Tryz.underlying26,Tryz.underlying3,Tryz.underlying4,aZ,xP,h0,h1,h2,h3]
 by_cases h4:x.eZ=y.eZ
 case neg=>simp[go_sem,Tryz.underlying26,Tryz.underlying3,Tryz.underlying4,aZ,xP,h0,h1,h2,h3,h4]
 by_cases h5:x.key=y.key
 case neg=>simp[go_sem,Tryz.underlying26,Tryz.underlying3,Tryz.underlying4,aZ,xP,h0,h1,h2,h3,h4,h5]
 by_cases h6:x.tagged=y.tagged
 case neg=>simp[go_sem,Tryz.underlying26,Tryz.underlying3,Tryz.underlying4,aZ,xP,h0,h1,h2,h3,h4,h5,h6]
 by_cases h7:x.draw=y.draw
 case neg=>simp[go_sem,Tryz.underlying26,Tryz.underlying3,Tryz.underlying4,aZ,xP,h0,h1,h2,h3,h4,h5,h6,h7]
 by_cases h8:x.addr=y.addr
 case neg=>simp[go_sem,Tryz.underlying26,Tryz.underlying3,Tryz.underlying4,aZ,xP,h0,h1,h2,h3,h4,h5,h6,h7,h8]
 by_cases h9:x.size=y.size
 case neg=>simp[go_sem,Tryz.underlying26,Tryz.underlying3,Tryz.underlying4,aZ,xP,h0,h1,h2,h3,h4,h5,h6,h7,h8,h9]
 by_cases h10:x.value=y.value
 case neg=>simp[go_sem,Tryz.underlying26,Tryz.underlying3,Tryz.underlying4,aZ,xP,h0,h1,h2,h3,h4,h5,h6,h7,h8,h9,h10]
 by_cases h11:x.tag=y.tag
 case neg=>simp[go_sem,Tryz.underlying26,Tryz.underlying3,Tryz.underlying4,aZ,xP,h0,h1,h2,h3,h4,h5,h6,h7,h8,h9,h10,h11]
 simp[go_sem,Tryz.underlying26,Tryz.underlying3,Tryz.underlying4,aZ,xP,h0,h1,h2,h3,h4,h5,h6,h7,h8,h9,h10,h11]
theorem aKY {w:World} {g o:Nat} {rs:Array Value} (hc:∀(j:Nat) (v:Value),rs[j]? =some v->w.cell? ⟨g,o+j,none⟩=some v) (hn:rs.size=12):(Instr.loadAt 26 (.pointer (some ⟨g,o,none⟩))).run Tryz.prog w=.ok (.agg rs) w:=by
 have:=run_loadAt_mid (P:=Tryz.prog) w g o 26 rs.toList _ (λj v hv=>hc j v (by simpa using hv)) Tryz.underlying26 rfl (by rw[kY,Array.length_toList,hn]);rwa[Array.toArray_toList] at this
theorem aHX {ops:Array Oper} {rest:List Oper} {o:Oper} {a:Act} {Q:Exit->Act->World->Prop} (hgd:o.guard=none) (s x:Operand) (ho:o.op=.call { callee:=.builtin .append,args:= #[s,x],argTypes:= #[22,22] })
 (base:Nat) (v:Value) (t:List aL) (W:World) (c:aL) (cs:Array Value) (gx:Nat) (hcs:cs=(fO c).toArray) (hs:a.eval s=v) (hx:a.eval x=.slice (some ⟨gx,0,none⟩) 1 1) (hgx:gx=W.heap.size) (hos:Os fO 12 26 W base v t) (hb:base<=W.heap.size) (hlen:t.length+1<=maxLen) (hbytes:(t.length+1)*96<=140737488355328)
 (hK:∀g' c' w',Os fO 12 26 w' base (.slice (some ⟨g',0,none⟩) (t.length+1) c') (t++ [c])->Below base W w'->wpList Tryz.prog ops Q rest (a.put o.dst (.slice (some ⟨g',0,none⟩) (t.length+1) c')) w'):
 wpList Tryz.prog ops Q (o::rest) a (W.alloc (.cells cs 26)):=by
 subst hcs;exact nW Tryz.underlying22 Pf rfl (by decide) uZ Jg hgd s x ho base v t W c gx hs hx hgx hos hb hlen hbytes λg' c' w' h1 h2 _ _ _=>hK g' c' w' h1 h2
theorem aIT:(Tryz.prog.info? 35).map (·.size)=some 4:=by kernel_rfl
theorem wf_i64 {z:Int} (h:(Lit.int .i64 z).wf=true):eG z:=kG h
theorem Yr {w:World} (A:Option Addr) (n c:Nat) (xs:List aL) (hz:Rw fO 12 w w.heap.size A n xs) (hwf:∀x∈xs,x.fits) (hcap:n<=c) (_:c<=maxLen) (hbig:c<=1048576)
 (A1:Option Addr) (n1 c1:Nat) (z1:List Int) (hz1:Row .i64 w w.heap.size A1 n1 z1) (_:∀z∈z1,(Lit.int .i64 z).wf=true) (hcap1:n1<=c1) (_:c1<=maxLen) (aPx:c1<=1048576)
 (A2:Option Addr) (n2 c2:Nat) (z2:List Int) (hz2:Row .i64 w w.heap.size A2 n2 z2) (aFr:∀z∈z2,(Lit.int .i64 z).wf=true) (hcap2:n2<=c2) (_:c2<=maxLen) (hbig2:c2<=1048576):
 Calls Tryz.prog 7 #[.slice A n c,.slice A1 n1 c1,.slice A2 n2 c2] w λe w'=>e=.returned (.bool true)/\Below w.heap.size w w':=by
 have hln:=hz.1;have hl1:=hz1.1;have hl2:=hz2.1;have hmx:n*(n1+1)<=1099512676352:=Nat.le_trans (Nat.mul_le_mul (show n<=1048576 by omega) (show n1+1<=1048577 by omega)) (by decide);have HAL:=hZ (Io w);have Qt:Hid (∀w',Below w.heap.size w w'->Calls Tryz.prog 12 #[.slice A n c] w' (vR w' xs)):=hZ (λw' hb=>J3 A n c xs w' w'.heap.size (hz.on hb (nR _)) (nR _) (by omega) hwf (Q8 xs))
 have HWL:Hid (∀k,k<=n->(qJ xs z1 z2 k).length<=1099512676352):=hZ (λk hk=>by
  have h1:=aH0 xs z1 z2 k;rw[hl1] at h1
  exact Nat.le_trans h1 (Nat.le_trans (Nat.mul_le_mul_right _ hk) hmx))
 have HIL:Hid (∀k j,(mK z1 z2 k j).length<=j):=hZ (aCn z1 z2);have HIN:Hid (Ins xs xs.length (qJ xs z1 z2 n)):=hZ (by rw[<-hln];exact aH1 xs z1 z2 _ (nR _));have Zx:Hid (∀w' (b:Nat) v,Os fO 12 26 w' b v (qJ xs z1 z2 n)->Calls Tryz.prog 12 #[v] w' (vR w' (qJ xs z1 z2 n))):=hZ (λw' b v h=>Tx h (by have:=HWL.out n (nR _);omega) (aGe hwf (λz hz=>wf_i64 (aFr z hz)) n (by omega)));have HX:=hZ (λ(i:Nat) (hi:i<n)=>(⟨xs[i]'(by omega),List.getElem?_eq_getElem _⟩:∃x,xs[i]? =some x));have HU1:=hZ (λ(i:Nat) (hi:i<n1)=>(⟨z1[i]'(by omega),List.getElem?_eq_getElem _⟩:∃x,z1[i]? =some x));have Yf:=hZ (λ(i:Nat) (hi:i<n2)=>(⟨z2[i]'(by omega),List.getElem?_eq_getElem _⟩:∃x,z2[i]? =some x));have HA:Hid (0<n->∃b off,A=some ⟨b,off,none⟩/\b<w.heap.size):=hZ (λh=>by obtain⟨b,off,e,hb,_⟩:=hz.2.2 h;exact⟨b,off,e,hb⟩);have HA1:Hid (0<n1->∃b off,A1=some ⟨b,off,none⟩/\b<w.heap.size):=hZ (λh=>by obtain⟨b,off,e,hb,_⟩:=hz1.2.2 h;exact⟨b,off,e,hb⟩);have HA2:Hid (0<n2->∃b off,A2=some ⟨b,off,none⟩/\b<w.heap.size):=hZ (λh=>by obtain⟨b,off,e,hb,_⟩:=hz2.2.2 h;exact⟨b,off,e,hb⟩);have HZ:=hZ hz;have HZ1:=hZ hz1;have HZ2:=hZ hz2;have jN:=hZ hln;have HL1:=hZ hl1;have HL2:=hZ hl2;have De:Hid ((bS xs).2.length=n):=hZ (by rw[(oC xs).2,Gq,hln]);have hnn:n<=1048576:=by omega
 have aPC:n1<=1048576:=by omega
 have aPB:n2<=1048576:=by omega
 clear hz hz1 hz2 hwf aFr hln hl1 hl2 hmx;go_enter Tryz.func7,Tryz.ntmps7
 go_wp2_with(first
  |(go_at_call 10;refine HAL.out.mono ?_;rintro e w1 ⟨rfl,hb1⟩;have HB1:=hZ hb1;clear hb1)
  |(go_at_call 12
    refine(Qt.out w1 HB1.out).mono ?_;rintro e w2 ⟨va,rfl,ha,hb2⟩;generalize jJ (bS xs).1=uf at*;generalize kU (bS xs).1=us at*;obtain⟨Aa,ca,rfl,_,_,hra⟩:=ha.row tV;rw[De.out] at hra⊢;have HS:Hid ((#[.int .i64 uf,.int .i64 us]:Array Value).size=2):=hZ rfl;have HO:Hid ((#[.int .i64 uf,.int .i64 us]:Array Value).all (·.oneCell')=true):=hZ (by simp[Value.oneCell']);have hb3:=aD w2 (.cells #[.int .i64 uf,.int .i64 us] 29);have HB2:=hZ (HB1.out.trans (hb2.mono HB1.out.size));have HB3:=hZ (HB2.out.trans (hb3.mono HB2.out.size));have HRA:=hZ (hra.on hb3 (nR _))
    clear ha hb2 hra hb3)
  |((with_reducible refine uM tJ #[.int .i64 uf,.int .i64 us] ?_ ?_ rfl HS.out HO.out ?_);rfl;rfl))
 obtain⟨w3,hw3⟩:∃w3,w3=w2.alloc (.cells #[.int .i64 uf,.int .i64 us] 29):=⟨_,rfl⟩;rw[<-hw3] at HB3 HRA⊢;clear hw3 HB2;go_loopw [29,9] (λi o wr=>∃k:Nat,k<=n/\i=.int .i64 k/\Hid (Os fO 12 26 wr w3.heap.size o (qJ xs z1 z2 k))/\Hid (Below w3.heap.size w3 wr)) (λi _ _=>n - (intOf i).toNat)
 case atStart=>exact⟨0,by omega,rfl,hZ Os.nil,hZ (Below.refl _ _)⟩
 case round=>
  obtain⟨k,hk,rfl,zO,HBk⟩:=hrel;have vT:=hZ (HB3.out.trans (HBk.out.mono HB3.out.size));by_cases hlt:k<n
  ·obtain⟨x,hx⟩:=HX.out k hlt
   obtain⟨bA,oA,q8,hbA⟩:=HA.out (by omega);subst q8;have HC:=hZ (Gj (x:=x) ((HZ.out.below vT.out).at_ uZ hx));obtain⟨oX,Wz⟩:∃oX,oX=aZ x:=⟨_,rfl⟩;rw[<-Wz] at HC;have HOX:Hid (oX= #[.int .i64 x.kind,.int .i64 x.proc,.int .i64 x.page,.int .i64 x.count,.int .i64 x.eZ,.int .i64 x.key,.bool x.tagged,.int .i64 x.draw,.int .i64 x.addr,.int .i64 x.size,.int .i64 x.value,.int .i64 x.tag]):=hZ Wz;have mY:Hid (oX.size=12):=hZ (by rw[Wz];rfl);have HOO:Hid (oX.all (·.oneCell')=true):=hZ (by rw[Wz];exact Tz x);clear Wz;have hlo:=vT.out.size;have hlk:=HBk.out.size;have hWk:=HWL.out k (by omega);have HWN:Hid (qJ xs z1 z2 (k+1)=qJ xs z1 z2 k++mK z1 z2 k n1++ [x]):=hZ (by rw[qJ,HL1.out,List.getD_eq_getElem?_getD,hx];rfl);obtain⟨ys,hys⟩:∃ys,ys=qJ xs z1 z2 k:=⟨_,rfl⟩;rw[<-hys] at zO hWk HWN;clear hys;obtain⟨wo,hwo⟩:∃wo,wo=wr:=⟨_,rfl⟩;subst hwo
   go_wp2_with(first
    |((with_reducible refine aCj Tryz.underlying26 rfl kY bA (oA+k*12) oX ?_ ?_ HC.out mY.out ?_);rfl;rfl)
    |((with_reducible refine uM kY oX ?_ ?_ rfl mY.out HOO.out ?_);rfl;rfl))
   have hb4:=aD wo (.cells oX 26);have Ce:=hZ (Bx.new wo 26 oX);have zF:=hZ (zO.out.below hb4 (nR _));have qQ:=hZ (HBk.out.trans (hb4.mono hlk));have HNE:Hid (u9.ownBlock≠some wo.heap.size):=hZ (λe=>by have:=(zO.out.jE _ e).1;omega);obtain⟨w4,hw4⟩:∃w4,w4=wo.alloc (.cells oX 26):=⟨_,rfl⟩;obtain⟨q,hq⟩:∃q,q=wo.heap.size:=⟨_,rfl⟩;rw[<-hw4] at Ce zF qQ⊢;rw[<-hq] at Ce HNE⊢;clear hw4 hq hb4;go_loopw [36,9] (λi o wr=>∃j:Nat,j<=n1/\i=.int .i64 j/\Hid (Os fO 12 26 wr w3.heap.size o (ys++mK z1 z2 k j))/\Hid (o.ownBlock≠some q)/\Hid (Bx wr q 26 oX)/\Hid (Below w3.heap.size w3 wr)) (λi _ _=>n1 - (intOf i).toNat)
   case atStart=>exact⟨0,by omega,rfl,hZ (by rw[mK,List.append_nil];exact zF.out),HNE,Ce,qQ⟩
   case round=>
    obtain⟨j,hj,rfl,Na,HNj,HXj,Ju⟩:=hrel;have hlj:=Ju.out.size;have Qy:=hZ (HB3.out.trans (Ju.out.mono HB3.out.size));have hIj:=HIL.out k j;have hq0:q<wr.heap.size:=HXj.out.lt;obtain⟨Y,hY⟩:∃Y,Y=ys++mK z1 z2 k j:=⟨_,rfl⟩;have HYE:=hZ hY;have hYL:Y.length<=1099512676352+j:=by rw[hY,List.length_append];omega
    rw[<-hY] at Na;clear hY;by_cases hjt:j<n1
    ·obtain⟨u,hu⟩:=HU1.out j hjt
     obtain⟨bU,oU,hUe,hbU⟩:=HA1.out (by omega);subst hUe;have k1:wr.cell? ⟨bU,oU+j,none⟩=some (.int .i64 u):=by
      obtain⟨b,o,e,_,hc⟩:=(HZ1.out.below Qy.out).at_ hjt;injection e with e;injection e with e1 e2;subst e1 e2;rw[hc,List.getD_eq_getElem?_getD,hu];rfl
     have hj0:(0:Int)<=(j:Int):=by omega
     have hjn:(j:Int)<(n1:Int):=by omega
     by_cases hc:u=(k:Int)
     ·have huk:(u==(k:Int))=true:=by simp[hc]
      by_cases hj2:j<n2
      ·obtain⟨v,hv⟩:=Yf.out j hj2
       obtain⟨bV,oV,hVe,hbV⟩:=HA2.out (by omega);subst hVe;have k2:wr.cell? ⟨bV,oV+j,none⟩=some (.int .i64 v):=by
        obtain⟨b,o,e,_,hc⟩:=(HZ2.out.below Qy.out).at_ hj2;injection e with e;injection e with e1 e2;subst e1 e2;rw[hc,List.getD_eq_getElem?_getD,hv];rfl
       have HY:Hid (mK z1 z2 k (j+1)=mK z1 z2 k j++ [Y3 v]):=hZ (aIR hu hv hc);have hjm:(j:Int)<(n2:Int):=by omega
       clear hu hv hc
       go_wp2_with(at_builtin;refine Lt Tryz.underlying22 Pf rfl (by decide) uZ Jg rfl _ _ rfl w3.heap.size u9 Y wr (Y3 v) wr.heap.size rfl rfl rfl Na.out hlj (by unfold maxLen;omega) (by omega) ?_
                   intro g' c' w5 ho5 hg5 hn5 aPO hc5 kH)
       have Qq:Hid (Bx w5 q 26 oX):=hZ ((hg5.block _ hq0 HNj.out.symm).trans HXj.out)
       have HN5:Hid ((Value.slice (some ⟨g',0,none⟩) (Y.length+1) c').ownBlock≠some q):=hZ (λe=>by
        simp only[Value.ownBlock,Option.some.injEq] at e;rcases hn5 with h|h
        ·exact HNj.out (by rw[<-h,e])
        ·omega)
       have vU:=hZ (Ju.out.trans (qL hg5 Na.out (nR _) hlj));have HO5:=hZ ho5;clear ho5 hg5 hn5;go_roundw
       case rel=>exact⟨j+1,by omega,by go_num,hZ (by rw[HY.out,<-List.append_assoc,<-HYE.out];exact HO5.out),HN5,Qq,vU⟩
       case measure=>simp[intOf];omega
      ·have HY:Hid (mK z1 z2 k (j+1)=mK z1 z2 k j):=hZ (aEu hu (λh=>hj2 (by have:=HL2.out;omega)))
       have hjm:¬((j:Int)<(n2:Int)):=by omega
       clear hu hc;go_wp2;go_roundw
       case rel=>exact⟨j+1,by omega,by go_num,hZ (by rw[HY.out,<-HYE.out];exact Na.out),HNj,HXj,Ju⟩
       case measure=>simp[intOf];omega
     ·have huk:(u==(k:Int))=false:=by simp[hc]
      have HY:Hid (mK z1 z2 k (j+1)=mK z1 z2 k j):=hZ (aEu hu (λh=>hc h.1));clear hu hc;go_wp2;go_roundw
      case rel=>exact⟨j+1,by omega,by go_num,hZ (by rw[HY.out,<-HYE.out];exact Na.out),HNj,HXj,Ju⟩
      case measure=>simp[intOf];omega
    ·have hjn:j=n1:=by omega
     subst hjn;obtain rfl:=HOX.out
     go_wp2_with(first
      |((with_reducible refine qW Tryz.underlying26 rfl kY q 0 #[.int .i64 x.kind,.int .i64 x.proc,.int .i64 x.page,.int .i64 x.count,.int .i64 x.eZ,.int .i64 x.key,.bool x.tagged,.int .i64 x.draw,.int .i64 x.addr,.int .i64 x.size,.int .i64 x.value,.int .i64 x.tag] ?_ ?_ HXj.out (Sub.all _) mY.out ?_);rfl;rfl)
      |(at_builtin;refine aHX rfl _ _ rfl w3.heap.size u9 Y wr x _ wr.heap.size rfl rfl rfl rfl Na.out hlj (by unfold maxLen;omega) (by omega) ?_
        intro g' c' w5 ho5 hb5))
     go_roundw
     case rel=>exact⟨k+1,by omega,by go_num,hZ (by rw[HWN.out,<-HYE.out];exact ho5),hZ (Ju.out.trans hb5)⟩
     case measure=>simp[intOf];omega
  ·have hkn:k=n:=by omega
   subst hkn;have HYL:=HWL.out k (nR _);have HLR:=hZ (aLu HIN.out);have HLE:=hZ (λj=>aLv xs (qJ xs z1 z2 k) (bS (qJ xs z1 z2 k)).2 j);have Jv:Hid ((bS (qJ xs z1 z2 k)).2.length=(qJ xs z1 z2 k).length):=hZ (by rw[(oC _).2,Gq]);have HWT:=hZ (λm o=>(Gg (ops:=xs) (k:=m) (o:=o)));obtain⟨ys,hys⟩:∃ys,ys=qJ xs z1 z2 k:=⟨_,rfl⟩;rw[<-hys] at zO Zx HYL HLR HLE Jv;clear hys HWL HIN;obtain⟨Aw,cw,rfl,_,_,hrw⟩:=zO.out.row uZ;obtain⟨N,hN⟩:∃N,N=ys.length:=⟨_,rfl⟩;rw[<-hN] at zO HYL HLR Jv hrw⊢;have HN:=hZ hN;clear hN;obtain⟨wo,hwo⟩:∃wo,wo=wr:=⟨_,rfl⟩;subst hwo;have HRW:=hZ hrw;clear hrw
   go_wp2_with(first
    |(go_at_call 12
      refine(Zx.out wo _ _ zO.out).mono ?_;rintro e w5 ⟨vb,rfl,hb,hb5⟩;generalize jJ (bS ys).1=vf at*;generalize kU (bS ys).1=vs at*;obtain⟨Ab,cb,rfl,_,_,hrb⟩:=hb.row tV;rw[Jv.out] at hrb⊢;have HS2:Hid ((#[.int .i64 vf,.int .i64 vs]:Array Value).size=2):=hZ rfl;have rX:Hid ((#[.int .i64 vf,.int .i64 vs]:Array Value).all (·.oneCell')=true):=hZ (by simp[Value.oneCell']);have hb6:=aD w5 (.cells #[.int .i64 vf,.int .i64 vs] 29);have eX:Below wo.heap.size wo (w5.alloc (.cells #[.int .i64 vf,.int .i64 vs] 29)):=hb5.trans (hb6.mono hb5.size);have nN:=hZ (vT.out.trans (eX.mono vT.out.size));have HRB:=hZ (hrb.on hb6 (nR _));have HRV:=hZ (HRW.out.on eX (nR _));have HR6:=hZ ((HRA.out.on HBk.out (nR _)).on eX (nR _))
      clear hb hb5 hrb hb6 eX)
    |((with_reducible refine uM tJ #[.int .i64 vf,.int .i64 vs] ?_ ?_ rfl HS2.out rX.out ?_);rfl;rfl))
   obtain⟨w6,xO⟩:∃w6,w6=w5.alloc (.cells #[.int .i64 vf,.int .i64 vs] 29):=⟨_,rfl⟩;rw[<-xO] at nN HRB HRV HR6⊢;clear xO zO Zx;obtain⟨bs,hbs⟩:∃bs,bs=(bS ys).2:=⟨_,rfl⟩;rw[<-hbs] at HLR HLE Jv HRB;clear hbs;go_loopw [71,16,17] (λi l m wr=>∃j:Nat,j<=N/\i=.int .i64 j/\m=.int .i64 ((eP xs ys bs j).2:Nat)/\Hid (Os Gl 4 35 wr w6.heap.size l (eP xs ys bs j).1)/\Hid (Below w6.heap.size w6 wr)) (λi _ _ _=>N - (intOf i).toNat)
   case atStart=>exact⟨0,by omega,rfl,rfl,hZ Os.nil,hZ (Below.refl _ _)⟩
   case round=>
    obtain⟨j,hj,rfl,rfl,Na,Ju⟩:=hrel;have Qy:=hZ (nN.out.trans (Ju.out.mono nN.out.size));have hlj:=Ju.out.size;have hle:=HLE.out j;by_cases hjt:j<N
    ·have uH:Hid (eP xs ys bs (j+1)=if Dl xs (eP xs ys bs j).2 (ys.getD j (G8 0))=true then((eP xs ys bs j).1++ [bs.getD j (aB 0)],(eP xs ys bs j).2+1) else eP xs ys bs j):=hZ rfl
     obtain⟨L,hL⟩:∃L,L=eP xs ys bs j:=⟨_,rfl⟩;rw[<-hL] at Na uH hle⊢;clear hL;obtain⟨l1,m⟩:=L;simp only at Na uH hle⊢;obtain⟨hl1,hmj,hmn⟩:=hle;have aPr:=hZ hl1;clear hl1;rw[jN.out] at hmn;obtain⟨y,hy⟩:∃y,ys[j]? =some y:=⟨ys[j]'(by have:=HN.out;omega),List.getElem?_eq_getElem _⟩;obtain⟨an,han⟩:∃an,bs[j]? =some an:=⟨bs[j]'(by have:=Jv.out;omega),List.getElem?_eq_getElem _⟩;obtain⟨bW,oW,hWe,hbW⟩:∃b off,Aw=some ⟨b,off,none⟩/\b<w6.heap.size:=by obtain⟨b,off,e,hb,_⟩:=HRV.out.2.2 (by omega);exact⟨b,off,e,hb⟩
     obtain⟨bB,oB,hBe,hbB⟩:∃b off,Ab=some ⟨b,off,none⟩/\b<w6.heap.size:=by obtain⟨b,off,e,hb,_⟩:=HRB.out.2.2 (by omega);exact⟨b,off,e,hb⟩
     subst hWe hBe;have HC:=hZ (Gj (x:=y) ((HRV.out.below Ju.out).at_ uZ hy));rw[List.getD_eq_getElem?_getD,hy,List.getD_eq_getElem?_getD,han] at uH;simp only[Option.getD_some] at uH;obtain⟨oY,hoY⟩:∃oY,oY=aZ y:=⟨_,rfl⟩;rw[<-hoY] at HC;have HOY:Hid (oY=aZ y):=hZ hoY;have mY:Hid (oY.size=12):=hZ (by rw[hoY];rfl);have HOO:Hid (oY.all (·.oneCell')=true):=hZ (by rw[hoY];exact Tz y);clear hoY;have hj0:(0:Int)<=(j:Int):=by omega
     have hjN:(j:Int)<(N:Int):=by omega
     go_upto_region 22 with(first
      |((with_reducible refine aCj Tryz.underlying26 rfl kY bW (oW+j*12) oY ?_ ?_ HC.out mY.out ?_);rfl;rfl)
      |((with_reducible refine uM kY oY ?_ ?_ rfl mY.out HOO.out ?_);rfl;rfl))
     have eX:=aD wr (.cells oY 26);have HX7:=hZ (Bx.new wr 26 oY);have Jp:=hZ (Na.out.below eX (nR _));have zH:=hZ (Ju.out.trans (eX.mono hlj));have aJ5:=hZ (Qy.out.trans (eX.mono Qy.out.size));obtain⟨w7,hw7⟩:∃w7,w7=wr.alloc (.cells oY 26):=⟨_,rfl⟩;obtain⟨q,hq⟩:∃q,q=wr.heap.size:=⟨_,rfl⟩;rw[<-hw7] at HX7 Jp zH aJ5⊢;rw[<-hq] at HX7⊢;clear hw7 hq eX HC hlj Ju Qy Na;simp only[Act.put];by_cases hm:m<k
     ·obtain⟨x,hx⟩:=HX.out m hm
      obtain⟨bA,oA,q8,hbA⟩:=HA.out (by omega);subst q8;have HC:=hZ (Gj (x:=x) ((HZ.out.below aJ5.out).at_ uZ hx));have zG:Hid (bA<w7.heap.size):=hZ (Nat.lt_of_lt_of_le hbA aJ5.out.size);have Nc:Hid (∀w,(Op.equalIn 10000 26 (.agg oY) (.agg (aZ x))).run Tryz.prog w=.ok (xP y x) w):=hZ (λw=>by rw[HOY.out];exact aKZ y x w);have HWX:Hid (Dl xs m y=xP y x):=hZ (by unfold Dl;rw[hx]);obtain⟨oX,Wz⟩:∃oX,oX=aZ x:=⟨_,rfl⟩;rw[<-Wz] at HC Nc;have HXZ:Hid (oX.size=12):=hZ (by rw[Wz];rfl);clear Wz hx;obtain⟨r,hr⟩:∃r,r=xP y x:=⟨_,rfl⟩;rw[<-hr] at Nc HWX;clear hr;have heq:=Nc.out;have hm0:(0:Int)<=(m:Int):=by omega
      have aPD:(m:Int)<(k:Int):=by omega
      refine fK [] (by kernel_rfl) (by kernel_rfl) ?_;intro V hV;iterate 11 (refine rq rfl rfl ?_;go_big_quiet_step(fail);refine wpQuiet_nil ?_)
      refine rf (.agg oY) (by kernel_rfl) rfl (λw' hb hf=>nU rfl (lN Tryz.underlying26 rfl kY (HX7.out.below hb) (Sub.all _) mY.out)) ?_;go_big_quiet_step(fail);refine wpQuiet_nil ?_;iterate 3 (refine rq rfl rfl ?_;go_big_quiet_step(fail);refine wpQuiet_nil ?_)
      refine rf (.agg oX) (by kernel_rfl) rfl (λw' hb hf=>nU rfl (aKY (λj v hv=>(hb.cell (p:=⟨bA,oA+m*12+j,none⟩) zG.out).trans (HC.out j v hv)) HXZ.out)) ?_;go_big_quiet_step(fail);refine wpQuiet_nil ?_;iterate 2 (refine rq rfl rfl ?_;go_big_quiet_step(fail);refine wpQuiet_nil ?_)
      refine rend ?_;intro w8 zK hf;clear hf hV;have HB8:=hZ (zH.out.trans (zK.mono zH.out.size));have Tf:=hZ (Jp.out.below zK (nR _));have hl8:=HB8.out.size;have aPF:l1.length<=1048576:=by have:=aPr.out;omega
      clear zK heq;cases r with
      |true=>
       have Fu:Hid (eP xs ys bs (j+1)=(l1++ [an],m+1)):=hZ (by rw[uH.out,HWX.out,if_pos rfl]);have HCA:Hid (∀(q:Nat) (v:Value),(#[.int .i64 an.err,.int .i64 an.value,.int .i64 an.fault,.int .i64 an.pos]:Array Value)[q]? =some v->w8.cell? ⟨bB,oB+j*4+q,none⟩=some v):=hZ (λq v hv=>(HRB.out.below HB8.out).at_ tV han q v (by simpa[Gl] using hv));have Tm:Hid ((#[.int .i64 an.err,.int .i64 an.value,.int .i64 an.fault,.int .i64 an.pos]:Array Value).size=4):=hZ rfl;clear han
       go_wp2_with(first
        |((with_reducible refine aCj Tryz.underlying35 rfl aIT bB (oB+j*4) #[.int .i64 an.err,.int .i64 an.value,.int .i64 an.fault,.int .i64 an.pos] ?_ ?_ HCA.out Tm.out ?_);rfl;rfl)
        |(at_builtin;refine nW Tryz.underlying27 aDU rfl (by decide) tV aBn rfl _ _ rfl w6.heap.size u16 l1 w8 an w8.heap.size rfl rfl rfl Tf.out hl8 (by unfold maxLen;omega) (by omega) ?_
          intro g' c' w9 W9 bC hg9 hn9 hc9))
       go_roundw
       case rel=>exact⟨j+1,by omega,by go_num,by rw[Fu.out];go_num,hZ (by rw[Fu.out];exact W9),hZ (HB8.out.trans bC)⟩
       case measure=>simp[intOf];omega
      |false=>
       have Fu:Hid (eP xs ys bs (j+1)=(l1,m)):=hZ (by rw[uH.out,HWX.out,if_neg (by decide)]);go_wp2;go_roundw
       case rel=>exact⟨j+1,by omega,by go_num,by rw[Fu.out],hZ (by rw[Fu.out];exact Tf.out),HB8⟩
       case measure=>simp[intOf];omega
     ·have hm2:¬((m:Int)<(k:Int)):=by omega
      have HWX:Hid (Dl xs m y=false):=hZ (by unfold Dl;rw[List.getElem?_eq_none (by have:=jN.out;omega)]);have Fu:Hid (eP xs ys bs (j+1)=(l1,m)):=hZ (by rw[uH.out,HWX.out,if_neg (by decide)]);refine fK [] (by kernel_rfl) (by kernel_rfl) ?_;intro V hV;iterate 11 (refine rq rfl rfl ?_;go_big_quiet_step(fail);refine wpQuiet_nil ?_)
      iterate 6 (refine rk (by kernel_rfl) ?_;go_big_quiet_step(fail);refine wpQuiet_nil ?_)
      refine rq rfl rfl ?_;go_big_quiet_step(fail);refine wpQuiet_nil ?_;refine rend ?_;intro w8 zK hf;clear hf hV;have HB8:=hZ (zH.out.trans (zK.mono zH.out.size));have Tf:=hZ (Jp.out.below zK (nR _));have hl8:=HB8.out.size;clear zK;go_wp2;go_roundw
      case rel=>exact⟨j+1,by omega,by go_num,by rw[Fu.out],hZ (by rw[Fu.out];exact Tf.out),HB8⟩
      case measure=>simp[intOf];omega
    ·have hjN:j=N:=by omega
     subst hjN;have hO:=Na.out;rw[HLR.out] at hO;obtain⟨Al,cl,rfl,_,_,hrl⟩:=hO.row tV;rw[De.out] at hrl⊢
     have Nc:Hid (∀w',Below wr.heap.size wr w'->Calls Tryz.prog 14 #[.slice Al k cl,.slice Aa k ca] w' λe w''=>e=.returned (.bool true)/\Below w'.heap.size w' w''):=hZ (λw' hb=>by
      have h:=aLQ Al Aa k cl k ca (bS xs).2 (bS xs).2 w' w'.heap.size (hrl.on hb (nR _)) ((HR6.out.on Ju.out (nR _)).on hb (nR _)) (nR _) (by omega) (by omega)
      rwa[aE3 aFN] at h)
     clear hO hrl;go_wp2_with(go_at_call 14;refine(Nc.out wr (Below.refl _ _)).mono ?_;rintro e w9 ⟨rfl,bC⟩)
     go_ret;exact⟨bH rfl,Qy.out.trans (bC.mono Qy.out.size)⟩
end
end Go.Proofs.YtoogfmbojlpjaaaGreat
