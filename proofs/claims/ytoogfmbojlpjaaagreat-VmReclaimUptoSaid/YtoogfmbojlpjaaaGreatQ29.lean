/- Lemmas. -/
import Derived.Test.YtoogfmbojlpjaaaGreatQ15
import Derived.Deep.MidRow
import Derived.Deep.WholeRow
import Derived.Laws.ResultCell
import Derived.Test.YtoogfmbojlpjaaaGreatQ19
import Derived.Test.YtoogfmbojlpjaaaGreatQA
set_option maxRecDepth 100000
set_option maxHeartbeats 32000000
set_option linter.unusedVariables false
set_option linter.unusedSimpArgs false
namespace Go.Proofs.YtoogfmbojlpjaaaGreat
open Go.ChangeShapes Go.WideShapes Go.ChangeAt Go.RowKit Go.Joins
section
structure RfV (rs:Array Value) (r:Nat->Int):Prop where
 size:rs.size=64
 at_:∀i,i<64->rs[i]? =some (.int .i64 (r i))
structure iY (w:World) (cs:Array Value) (p:Pl):Prop where
 size:cs.size=65
 list:∃v,cs[0]? =some v/\Bv w v p.f
 at_:∀i,i<64->cs[i+1]? =some (.int .i64 (p.r i))
theorem iY.below {w w':World} {cs:Array Value} {p:Pl} (h:iY w cs p) (hb:Below w.heap.size w w'):iY w' cs p:=
 ⟨h.size,by obtain⟨v,h1,h2⟩:=h.list;exact⟨v,h1,h2.below hb⟩,h.at_⟩
theorem iY.refs {w:World} {cs:Array Value} {p:Pl} (h:iY w cs p):RfV (cs.extract 1 65) p.r:=
 ⟨by rw[Array.size_extract,h.size];rfl,λi hi=>by
   rw[Array.getElem?_extract,h.size,if_pos (by omega),Nat.add_comm 1 i];exact h.at_ i hi⟩
theorem aDd {w:World} {v:Value} {xs:List aH} (h:Bv w v xs):v.oneCell'=true:=by
 obtain⟨A,n,c,rfl,_⟩:=h;rfl
theorem iY.one {w:World} {cs:Array Value} {p:Pl} (h:iY w cs p):cs.all (·.oneCell')=true:=by
 rw[Array.all_eq_true];intro i hi;rw[h.size] at hi;obtain⟨v,hv,hb⟩:=h.list;cases i with
 |zero=>rw[Array.getElem?_eq_getElem (by rw[h.size];exact hi)] at hv;cases hv;exact aDd hb
 |succ i=>
  have:=h.at_ i (by omega);rw[Array.getElem?_eq_getElem (by rw[h.size];exact hi)] at this;injection this with this;rw[this];rfl
theorem iY.set {w:World} {cs:Array Value} {p:Pl} (h:iY w cs p) (j:Nat) (x:Int):iY w (cs.setIfInBounds (1+j) (.int .i64 x)) ⟨p.f,aO p.r j x⟩:=
 ⟨by rw[Array.size_setIfInBounds];exact h.size,by
   obtain⟨v,h1,h2⟩:=h.list;exact⟨v,by rw[Array.getElem?_setIfInBounds_ne (by omega)];exact h1,h2⟩,λi hi=>by
   simp only[aO];by_cases e:i=j
   ·subst e
    rw[Nat.add_comm,Array.getElem?_setIfInBounds_self_of_lt (by rw[h.size];omega),if_pos rfl]
   ·rw[Array.getElem?_setIfInBounds_ne (by omega),if_neg e];exact h.at_ i hi⟩
theorem iY.put {w:World} {cs:Array Value} {p:Pl} (h:iY w cs p) {v:Value} {l:List aH} (hv:Bv w v l):iY w (cs.setIfInBounds 0 v) ⟨l,p.r⟩:=
 ⟨by rw[Array.size_setIfInBounds];exact h.size,⟨v,by rw[Array.getElem?_setIfInBounds_self_of_lt (by rw[h.size];omega)],hv⟩,λi hi=>by
   rw[Array.getElem?_setIfInBounds_ne (by omega)];exact h.at_ i hi⟩
def zR:Array Value:=Array.replicate 64 (.int .i64 0)
def zP:Array Value:= #[.slice none 0 0]++zR
theorem aBi:RfV zR (λ_=>0):=⟨by simp[zR],λi hi=>by simp[zR,hi]⟩
def qA (v:Value) (rs:Array Value):Array Value:= #[v]++rs
theorem aFg {w:World} {v:Value} {rs:Array Value} {l:List aH} {r:Nat->Int} (hv:Bv w v l) (h:RfV rs r):iY w (qA v rs) ⟨l,r⟩:=
 ⟨by simp[qA,h.size],⟨v,by rw[qA,Array.getElem?_append_left (by simp)];rfl,hv⟩,λi hi=>by
   have:=h.at_ i hi;simp only[qA];rw[Array.getElem?_append_right (by simp)];simpa using this⟩
theorem Yo (w:World):iY w zP jA:=aFg Bv.nil aBi
theorem qB:(Tryz.prog.info? 57).map (·.size)=some 65:=by kernel_rfl
theorem aN5:(Tryz.prog.info? 55).map (·.size)=some 64:=by kernel_rfl
theorem aL8:(Tryz.prog.info? 57).map (λi=>(i.zero,i.size))=some (some (.agg zP),65):=by kernel_rfl
theorem aL7:(Tryz.prog.info? 55).map (λi=>(i.zero,i.size))=some (some (.agg zR),64):=by kernel_rfl
theorem zvP (w:World):(zeroValue 57).run Tryz.prog w=.ok (.agg zP) w:=(zero_of_info aL8).1 w
theorem zvR (w:World):(zeroValue 55).run Tryz.prog w=.ok (.agg zR) w:=(zero_of_info aL7).1 w
theorem dU:zP.size=65:=by simp[zP,zR]
theorem Vn (v:Value):zP.setIfInBounds 0 v=qA v zR:=by
 apply Array.ext';simp[zP,qA]
theorem zcP:Tryz.zeroCells57=zP:=by kernel_rfl
theorem aIs (w:World):(Instr.build 57 #[]).run Tryz.prog w=.ok (.agg zP) w:=by
 unfold Instr.build;simp[Sem.run_bind,zvP,run_underlying Tryz.underlying57,Result.andThen,go_sem,Instr.fill,Value.cells,zcP]
theorem aIr (A:Option Addr) (n c:Nat) (w:World):(Instr.build 57 #[(0,.slice A n c)]).run Tryz.prog w=.ok (.agg (qA (.slice A n c) zR)) w:=by
 unfold Instr.build;have h0:¬zP= #[]:=λe=>by have:=dU;rw[e] at this;cases this
 simp[Sem.run_bind,zvP,run_underlying Tryz.underlying57,Result.andThen,go_sem,Instr.fill,Value.cells,zcP];first|(rw[if_neg h0,Vn];done)|(rw[if_neg h0,Vn];rfl)|(rw[Vn];done)|(rw[Vn];rfl)
section
variable {ops:Array Oper} {rest:List Oper} {dst:Option Tmp} {x y:Operand} {type:TypeId} {pos:String} {after:Array Edge} {a:Act} {w:World} {Q:Exit->Act->World->Prop}
theorem uR {T:TypeId} {cs:Array Value} (g:Nat) (hx:a.eval x=.pointer (some ⟨g,0,none⟩)) (hc:Bx w g T cs) (hn:cs.size=65)
 (h:wpList Tryz.prog ops Q rest (a.put dst (.agg cs)) w):wpList Tryz.prog ops Q (⟨dst,.load 57 x,type,pos,after,none⟩::rest) a w:=
 wpList_load_mid rfl 57 x rfl g 0 hx cs.toList _ (λj v hv=>by rw[Nat.zero_add,hc.cell];simpa using hv) Tryz.underlying57 rfl (by rw[qB,Array.length_toList,hn]) (by simpa using h)
theorem ldR {T:TypeId} {cs:Array Value} (g o:Nat) (rs:Array Value) (hx:a.eval x=.pointer (some ⟨g,o,none⟩)) (hc:Bx w g T cs) (hr:∀i v,rs[i]? =some v->cs[o+i]? =some v) (hn:rs.size=64)
 (h:wpList Tryz.prog ops Q rest (a.put dst (.agg rs)) w):wpList Tryz.prog ops Q (⟨dst,.load 55 x,type,pos,after,none⟩::rest) a w:=
 wpList_load_mid rfl 55 x rfl g o hx rs.toList _ (λj v hv=>by rw[hc.cell];exact hr j v (by simpa using hv)) Tryz.underlying55 rfl (by rw[aN5,Array.length_toList,hn]) (by simpa using h)
theorem Ej (g:Nat) {z:Array Value} (cs:Array Value) (hx:a.eval x=.pointer (some ⟨g,0,none⟩)) (hy:a.eval y=.agg cs) (hz:Bx w g 57 z) (hs:z.size=65) (hn:cs.size=65) (h1:cs.all (·.oneCell')=true)
 (h:wpList Tryz.prog ops Q rest (a.put dst undef) (w.setRow g cs)):wpList Tryz.prog ops Q (⟨dst,.store 57 x y,type,pos,after,none⟩::rest) a w:=by
 refine wpList_plain rfl λK hK=> ?_;unfold Oper.wp execOp;simp only[hx,hy,Instr.storeAt,Instr.sureAddr,Sem.run_bind,Sem.run_pure,Result.andThen_ok,run_storeVar_row w g 57 57 z cs hz (by rw[qB,hn]) (by rw[hs,hn]) h1];exact hK _ _ h
theorem Mm (h:wpList Tryz.prog ops Q rest (a.put dst (.pointer (some ⟨w.heap.size,0,none⟩))) (w.alloc (.cells zP 57))):wpList Tryz.prog ops Q (⟨dst,.alloc 57,type,pos,after,none⟩::rest) a w:=by
 refine wpList_plain rfl λK hK=> ?_;unfold Oper.wp execOp;simp only[Instr.alloc,zvP,Sem.run_bind,Sem.run_pure,Result.andThen_ok];exact hK _ _ h
theorem alR (h:wpList Tryz.prog ops Q rest (a.put dst (.pointer (some ⟨w.heap.size,0,none⟩))) (w.alloc (.cells zR 55))):wpList Tryz.prog ops Q (⟨dst,.alloc 55,type,pos,after,none⟩::rest) a w:=by
 refine wpList_plain rfl λK hK=> ?_;unfold Oper.wp execOp;simp only[Instr.alloc,zvR,Sem.run_bind,Sem.run_pure,Result.andThen_ok];exact hK _ _ h
theorem aDi (h:wpList Tryz.prog ops Q rest (a.put dst (.agg zP)) w):wpList Tryz.prog ops Q (⟨dst,.build 57 #[],type,pos,after,none⟩::rest) a w:=by
 refine wpList_plain rfl λK hK=> ?_;unfold Oper.wp execOp;simp only[aIs,Array.map_empty,List.map_toArray,List.map_nil,Sem.run_bind,Sem.run_pure,Result.andThen_ok];exact hK _ _ h
theorem aPb {p:Operand} {A:Option Addr} {n c:Nat} (hp:a.eval p=.slice A n c) (h:wpList Tryz.prog ops Q rest (a.put dst (.agg (qA (.slice A n c) zR))) w):wpList Tryz.prog ops Q (⟨dst,.build 57 #[(0,p)],type,pos,after,none⟩::rest) a w:=by
 refine wpList_plain rfl λK hK=> ?_;unfold Oper.wp execOp;simp only[List.map_toArray,List.map_cons,List.map_nil,hp,aIr,Sem.run_bind,Sem.run_pure,Result.andThen_ok];exact hK _ _ h
end
end
structure Fi (w:World) (g:Nat) (r:Nat->Int):Prop where
 at_:∀i,i<64->w.cell? ⟨g,i,none⟩=some (.int .i64 (r i))
 free:∀i,i<64->w.frozen? ⟨g,i,none⟩=false
theorem Fi.lt {w:World} {g:Nat} {r:Nat->Int} (h:Fi w g r):g<w.heap.size:=lt_of_cell (h.at_ 0 (by omega))
theorem Fi.below {w w':World} {g:Nat} {r:Nat->Int} (h:Fi w g r) (hb:Below w.heap.size w w'):Fi w' g r:=
 ⟨λi hi=>(hb.cell (p:=⟨g,i,none⟩) h.lt).trans (h.at_ i hi),λi hi=>(hb.frozen (p:=⟨g,i,none⟩) h.lt).trans (h.free i hi)⟩
theorem Fi.congr {w:World} {g:Nat} {r r':Nat->Int} (h:Fi w g r) (he:∀i,i<64->r i=r' i):Fi w g r':=
 ⟨λi hi=>by rw[<-he i hi];exact h.at_ i hi,h.free⟩
theorem Fi.set {w:World} {g:Nat} {r:Nat->Int} (h:Fi w g r) {j:Nat} (hj:j<64) (x:Int):Fi (w.setCell ⟨g,j,none⟩ (.int .i64 x)) g (aO r j x):=by
 have hc:=h.at_ j hj;refine⟨λi hi=> ?_,λi hi=> ?_⟩
 ·by_cases e:i=j
  ·subst e
   simp[go_sem,hc,aO]
  ·have:=h.at_ i hi
   simp[go_sem,this,aO,e]
 ·have:=h.free i hi
  simp[go_sem,this]
theorem aNo (w:World):Fi (w.alloc (.cells zR 55)) w.heap.size (λ_=>0):=
 ⟨λi hi=>by rw[(Bx.new w _ zR).cell];exact aBi.at_ i hi,λi hi=>(Bx.new w _ zR).free i⟩
def b01 (b:Bool):Int:=if b then 1 else 0
theorem aNB (b:Bool):(b01 b==1)=b:=by cases b<;>rfl
theorem aHG {xs:List aH} {k:Nat} {x:aH} (hx:xs[k]? =some x) (m:Nat):kC (xs.take (k+1)) m=(kC (xs.take k) m||Af x m):=by
 have hlt:=(List.getElem?_eq_some_iff.1 hx).1;rw[List.take_succ_eq_append_getElem hlt,(List.getElem?_eq_some_iff.1 hx).2,aHH]
theorem aBR {rs:Array Value} {r:Nat->Int} (h:RfV rs r) {k:Nat} (hk:k<64) (w:World):(Instr.index 55 (.agg rs) (.int .i64 (k:Int))).run Tryz.prog w=.ok (.int .i64 (r k)) w:=by
 have ha:=Tryz.isAgg3;have hz:=Tryz.sizeOf3;have hv:=h.at_ k hk;unfold Instr.index;simp[go_sem,ha,hz,part,hv];intro h;omega
theorem aGW {p:Pl} (h1:kX p.f=true) (h2:∀n,n<64->Dq p n=true):eD p=true:=by
 simp only[eD,Bool.and_eq_true,List.all_eq_true,List.mem_range];exact⟨h1,h2⟩
theorem aGV {p:Pl} {n:Nat} (hn:n<64) (h:Dq p n=false):eD p=false:=by
 rw[<-Bool.not_eq_true];simp only[eD,Bool.and_eq_true,List.all_eq_true,List.mem_range];rintro⟨_,h2⟩;rw[h2 n hn] at h;cases h
theorem aIx {p:Pl} (h:kX p.f=false):eD p=false:=by unfold eD;rw[h];rfl
theorem aBW {w:World} {cs:Array Value} {p:Pl} (h:iY w cs p) (hf:∀x∈p.f,x.fits):
 Calls Tryz.prog 150 #[.agg cs] w λe w'=>e=.returned (.bool (eD p))/\Below w.heap.size w w':=by
 have HW0:=hZ ((Below.refl w.heap.size w).alloc (nR _) (.cells cs 57));have tT:=hZ (Bx.new w 57 cs);have HP:=hZ h;have Hr:=hZ h.refs;have iC:=hZ h.size;obtain⟨v,hv0,hbv⟩:=h.list;have qC:=aK6 (hbv.below HW0.out) hf;obtain⟨A,n,c,rfl,hz,hn⟩:=hbv;have HZ:=hZ hz;have jN:=hZ hz.1;cases hr:kX p.f with
 |false=>
  rw[hr] at qC;have aP:=hZ (aIx hr);clear hr h hz hf;generalize eD p=res at*;go_enter Tryz.func150,Tryz.ntmps150;go_wp2_with(go_at_call 168;refine qC.mono ?_;rintro e w1 ⟨rfl,hb1⟩)
  go_ret;exact⟨bH aP.out.symm,HW0.out.trans (hb1.mono HW0.out.size)⟩
 |true=>
  rw[hr] at qC;have Qu:=hZ (wU hr);have Cq:n<=64:=by rw[<-hz.1];exact Ol Qu.out
  have HX:=hZ (λ(i:Nat) (hi:i<n)=>(⟨p.f[i]'(by rw[hz.1];exact hi),List.getElem?_eq_getElem _⟩:∃x,p.f[i]? =some x));have HA:Hid (0<n->∃b off,A=some ⟨b,off,none⟩/\b<w.heap.size):=hZ (λh=>HZ.out.open h);have Vl:=hZ (aGW hr);have aPp:=hZ (λ(n:Nat) (hn:n<64)=>aGV (p:=p) hn);have HRO:Hid (∀n:Nat,Dq p n=(decide (0<=p.r n)&&((p.r n==0)==kC p.f n))):=hZ (λn=>rfl);clear hr h hz hf;generalize eD p=res at*;go_enter Tryz.func150,Tryz.ntmps150;go_wp2_with(first
   |(with_reducible refine alR ?_)
   |(go_at_call 168
     refine qC.mono ?_;rintro e w1 ⟨rfl,hb1⟩;have K1:=hZ (HW0.out.trans (hb1.mono HW0.out.size));have X1:=hZ (tT.out.below hb1);have hg1:w.heap.size<w1.heap.size:=X1.out.lt;have c1:w1.cell? ⟨w.heap.size,0,none⟩=some (.slice A n c):=by rw[X1.out.cell];exact hv0
     have F1:=hZ (aNo w1);have K2:=hZ (K1.out.alloc K1.out.size (.cells zR 55));have X2:=hZ (X1.out.below ((Below.refl _ _).alloc (nR _) (.cells zR 55)));have hg2:w1.heap.size<(w1.alloc (.cells zR 55)).heap.size:=by simp
     clear hb1 qC))
  have HG2:=hZ hg2;clear hg2;go_loopw [16] (λi wr=>∃k:Nat,k<=n/\i=.int .i64 k/\Hid (Fi wr w1.heap.size (λm=>b01 (kC (p.f.take k) m)))/\Hid (Bx wr w.heap.size 57 cs)/\Hid (Below w.heap.size w wr)) (λi _=>n - (intOf i).toNat)
  case atStart=>exact⟨0,by omega,rfl,hZ (F1.out.congr λi hi=>by simp[kC,b01]),X2,K2⟩
  case round=>
   obtain⟨k,hk,rfl,HF,HXr,HB⟩:=hrel;have aOz:=HB.out.size;have aPI:w1.heap.size<wr.heap.size:=HF.out.lt;by_cases hlt:k<n
   ·obtain⟨x,hx⟩:=HX.out k hlt
    obtain⟨b,off,q8,hb⟩:=HA.out (by omega);subst q8;have hcs:=(HZ.out.below HB.out).at_ jD hx;have Ec:wr.cell? ⟨b,off+k*2,none⟩=some (.int .i64 x.a):=hcs 0 _ rfl;have Eb:wr.cell? ⟨b,off+k*2+1,none⟩=some (.int .i64 x.o):=hcs 1 _ rfl;have HX0:=hZ hx;have hA:=(Below.refl wr.heap.size wr).alloc (nR _) (.cells #[.int .i64 x.a,.int .i64 x.o] 184);have KA:=hZ (HB.out.trans (hA.mono aOz));have FA:=hZ (HF.out.below hA);have XA:=hZ (HXr.out.below hA);obtain⟨x1,x2,x3,x4⟩:=bL (Qu.out.1 x (List.mem_of_getElem? hx));have xo1:0<=x.o:=by omega
    have xo2:x.o<=6:=by omega
    have hsh:=aKU (o:=x.o) xo1 xo2;obtain⟨s1,s2⟩:=I1 (o:=x.o) xo1 xo2;have hxs:x.a+aX x.o<=64:=by omega
    have HIN:Hid (∀m:Nat,Af x m=(decide (x.a<=m)&&decide ((m:Int)<x.a+aX x.o))):=hZ (λn=>rfl);have qF:Hid (aX x.o=2^x.o.toNat):=hZ rfl;obtain⟨xa,hxa⟩:=Int.eq_ofNat_of_zero_le x1;obtain⟨wq,hwq⟩:∃wp,wp=wr:=⟨_,rfl⟩;subst hwq;obtain⟨s,hs⟩:∃s,s=aX x.o:=⟨_,rfl⟩;rw[<-hs] at hsh s1 s2 HIN qF hxs;have hw64:wrap64 (2^x.o.toNat)=s:=by rw[<-qF.out];unfold wrap64;omega
    have HXA:=hZ hxa;have hqz:wq.heap.size<(wq.alloc (.cells #[.int .i64 x.a,.int .i64 x.o] 184)).heap.size:=by simp
    have HQZ:=hZ hqz;have Y0:Hid ((wq.alloc (.cells #[.int .i64 x.a,.int .i64 x.o] 184)).cell? ⟨wq.heap.size,0,none⟩=some (.int .i64 xa)):=hZ (by rw[<-HXA.out];simp[go_sem]);clear hs x2 x3 x4 hxa hx hcs hA hqz;go_wp2;simp only[hw64];clear hw64 hsh qF Ec Eb;rw[HXA.out] at hxs;go_loopw [23] (λi wr=>∃q:Nat,(q:Int)<=s/\i=.int .i64 q/\Hid (Fi wr w1.heap.size (λm=>b01 (kC (p.f.take k) m||(decide ((xa:Int)<=m)&&decide ((m:Int)<xa+q)))))/\Hid (Bx wr w.heap.size 57 cs)/\Hid (Below w.heap.size w wr)/\wq.heap.size<wr.heap.size/\wr.cell? ⟨wq.heap.size,0,none⟩=some (.int .i64 xa)) (λi _=>64 - (intOf i).toNat)
    case atStart=>exact⟨0,by omega,rfl,hZ (FA.out.congr λi hi=>by
     congr 1;rw[Bool.eq_iff_iff];simp;omega),XA,KA,HQZ.out,Y0.out⟩
    case round=>
     obtain⟨q,hq,rfl,HFq,HXq,HBq,Mg,bc0⟩:=hrel;by_cases hql:(q:Int)<s
     ·have hdq:decide ((q:Int)<s)=true:=decide_eq_true hql
      have hix:((xa:Int)+(q:Int)).toNat=xa+q:=by omega
      have aI5:xa+q<64:=by omega
      have aPw:(xa:Int)+(q:Int)<64:=by omega
      have hi0:(0:Int)<=(xa:Int)+(q:Int):=by omega
      have hfc:=HFq.out.at_ (xa+q) aI5;have hff:=HFq.out.free (xa+q) aI5;have hne:¬(wq.heap.size=w1.heap.size):=by omega
      go_wp2;go_roundw
      case rel=>exact⟨q+1,by omega,by go_num,hZ ((HFq.out.set aI5 1).congr λi hi=>by
       unfold aO;by_cases e:i=xa+q
       ·subst e
        rw[if_pos rfl,show decide ((xa:Int)<=((xa+q:Nat):Int))=true from decide_eq_true (by omega),show decide (((xa+q:Nat):Int)<(xa:Int)+((q+1:Nat):Int))=true from decide_eq_true (by omega)];simp[b01]
       ·rw[if_neg e]
        show b01 (kC (p.f.take k) i||(decide ((xa:Int)<=i)&&decide ((i:Int)<xa+q)))=b01 (kC (p.f.take k) i||(decide ((xa:Int)<=i)&&decide ((i:Int)<xa+((q+1:Nat):Int))));rw[show decide ((i:Int)<xa+q)=decide ((i:Int)<xa+((q+1:Nat):Int)) from decide_eq_decide.2 (by omega)]),hZ (HXq.out.other (by omega) _ _),hZ (HBq.out.setCell (p:=⟨w1.heap.size,xa+q,none⟩) (by show w.heap.size<=w1.heap.size;omega) _),by simpa using Mg,by simp[go_sem,bc0,hne]⟩
      case measure=>simp[intOf];omega
     ·have hqe:(q:Int)=s:=by omega
      have hdq:decide ((q:Int)<s)=false:=decide_eq_false hql;have HFN:Hid (Fi wr w1.heap.size (λm=>b01 (kC (p.f.take (k+1)) m))):=hZ (HFq.out.congr λi hi=>by
       show b01 (kC (p.f.take k) i||(decide ((xa:Int)<=i)&&decide ((i:Int)<xa+q)))=b01 (kC (p.f.take (k+1)) i);rw[aHG HX0.out,HIN.out,HXA.out,hqe])
      go_wp2;go_roundw
      case rel=>exact⟨k+1,by omega,by go_num,HFN,HXq,HBq⟩
      case measure=>simp[intOf];omega
   ·have hkn:k=n:=by omega
    subst hkn;have HFN:Hid (Fi wr w1.heap.size (λm=>b01 (kC p.f m))):=hZ (HF.out.congr λi hi=>by
     show b01 (kC (p.f.take k) i)=b01 (kC p.f i);rw[List.take_of_length_le (by rw[jN.out];exact nR _)])
    have Tj:Hid (∀i v,(cs.extract 1 65)[i]? =some v->cs[1+i]? =some v):=hZ (λi v hv=>by
     rw[Array.getElem?_extract] at hv;split at hv
     ·exact hv
     ·cases hv)
    obtain⟨wo,hwo⟩:∃wp,wp=wr:=⟨_,rfl⟩;subst hwo;obtain⟨rs,hrs⟩:∃rs,rs=cs.extract 1 65:=⟨_,rfl⟩;rw[<-hrs] at Tj Hr;clear hrs HF;go_wp2_with((with_reducible(refine ldR w.heap.size 1 rs ?_ HXr.out Tj.out Hr.out.size ?_));rfl)
    go_loop [35] (λi=>∃k:Nat,k<=64/\i=.int .i64 k/\Hid (∀m,m<k->Dq p m=true)) (λi=>64 - (intOf i).toNat)
    case atStart=>exact⟨0,by omega,rfl,hZ (λm hm=>absurd hm (Nat.not_lt_zero _))⟩
    case round=>
     obtain⟨k,hk,rfl,lH⟩:=hrel;by_cases hlt:k<64
     ·have hidx:=aBR Hr.out hlt
      have hfc:=HFN.out.at_ k hlt;have hk0:(0:Int)<=(k:Int):=by omega
      have aNd:(k:Int)<64:=by omega
      have hgw:=HFN.out.lt;have HB0:=hZ (aNB (kC p.f k));have Vh:=hZ (HRO.out k);have HNk:=hZ (aPp.out k hlt);have aKv:=hZ (λ(h:Dq p k=true)=>(show∀m,m<k+1->Dq p m=true from λm hm=>by
       by_cases e:m=k
       ·subst e;exact h
       ·exact lH.out m (by omega)))
      obtain⟨rk,hrk⟩:∃r,r=p.r k:=⟨_,rfl⟩;obtain⟨y,hy⟩:∃y,y=kC p.f k:=⟨_,rfl⟩;rw[<-hrk] at hidx Vh;rw[<-hy] at hfc HB0 Vh;clear hrk hy;by_cases hneg:rk<0
      ·have HR:=hZ (HNk.out (by rw[Vh.out,decide_eq_false (by omega)];rfl))
       have hd:decide (rk<0)=true:=decide_eq_true hneg;go_wp2;go_ret;exact⟨bH HR.out.symm,HB.out⟩
      ·have hd:decide (rk<0)=false:=decide_eq_false hneg
       have HD0:Hid (decide (0<=rk)=true):=hZ (decide_eq_true (by omega));cases y with
       |true=>
        have aOQ:wo.cell? ⟨w1.heap.size,k,none⟩=some (.int .i64 1):=hfc;clear hfc;by_cases h0:rk=0
        ·have HR:=hZ (aKv.out (by rw[Vh.out,HD0.out,h0];rfl))
         subst h0;go_wp2
         go_round
         case rel=>exact⟨k+1,by omega,by go_num,HR⟩
         case measure=>simp[intOf];omega
        ·have hq0:(rk==0)=false:=by rw[beq_eq_false_iff_ne];exact h0
         have HR:=hZ (HNk.out (by rw[Vh.out,hq0];simp));go_wp2;go_ret;exact⟨bH HR.out.symm,HB.out⟩
       |false=>
        have aOQ:wo.cell? ⟨w1.heap.size,k,none⟩=some (.int .i64 0):=hfc;clear hfc;by_cases h0:rk=0
        ·have HR:=hZ (HNk.out (by rw[Vh.out,h0];simp))
         subst h0;go_wp2;go_ret;exact⟨bH HR.out.symm,HB.out⟩
        ·have hq0:(rk==0)=false:=by rw[beq_eq_false_iff_ne];exact h0
         have HR:=hZ (aKv.out (by rw[Vh.out,HD0.out,hq0];rfl));go_wp2
         go_round
         case rel=>exact⟨k+1,by omega,by go_num,HR⟩
         case measure=>simp[intOf];omega
     ·have aNd:k=64:=by omega
      subst aNd;have HR:=hZ (Vl.out lH.out);go_wp2;go_ret;exact⟨bH HR.out.symm,HB.out⟩
theorem Ig {w:World} {g:Nat} {T:TypeId} {cs:Array Value} (hc:Bx w g T cs) (hn:cs.size=65):(loadVar 57 ⟨g,0,none⟩).run Tryz.prog w=.ok (.agg cs) w:=by
 have:=run_loadVar_mid (P:=Tryz.prog) w g 0 57 cs.toList _ (λj v hv=>by rw[Nat.zero_add,hc.cell];simpa using hv) Tryz.underlying57 rfl (by rw[qB,Array.length_toList,hn]);simpa using this
theorem bZ {fn:Func} {p:Tmp} {ty:TypeId} (h:fn.results= #[.cell p ty]) (tmps:Array Value) (P:Program) (w:World):
 (results fn tmps).run P w=((asAddr (tmps.getD p undef)).run P w).andThen λa w₁=>(loadVar ty a).run P w₁:=by
 simp only[results,h];simp[Sem.run_bind,Result.andThen]
theorem vW {fn:Func} {p u u':Tmp} {ty:TypeId} (h:fn.results= #[.cell p ty,.tmp u,.tmp u']) (tmps:Array Value) (P:Program) (w:World):
 (results fn tmps).run P w=
   ((asAddr (tmps.getD p undef)).run P w).andThen λa w₁=>((loadVar ty a).run P w₁).andThen λv w₂=>.ok (.tuple #[v,tmps.getD u undef,tmps.getD u' undef]) w₂:=by
 simp only[results,h];simp[Sem.run_bind,Result.andThen]
theorem Ir:zP.all (·.oneCell')=true:=(Yo default).one
def lV (v:Value) (g:Nat):Prop:=∀b off m n c,v=.slice (some ⟨b,off,m⟩) n c->0<n->b≠g
theorem lV.old {w:World} {v:Value} {xs:List aH} (h:Bv w v xs) {g:Nat} (hg:w.heap.size<=g):lV v g:=by
 intro b off m n c e hn;obtain⟨A,n',c',rfl,hr,_⟩:=h;injection e with e1 e2 e3;subst e2;obtain⟨b',off',e',hb,_⟩:=hr.2.2 hn;rw[e1] at e';injection e' with e';injection e' with e1 _ _;omega
theorem lV.new {w:World} {v:Value} {base:Nat} {xs:List aH} (h:Os lQ 2 184 w base v xs) {g:Nat} (hg:g<base):lV v g:=by
 intro b off m n c e hn;obtain⟨h1,⟨e',h0⟩|⟨b',cap,cur,e',hb,_⟩⟩:=h
 ·rw[e] at e';cases e'
 ·rw[e] at e'
  injection e' with e1 _ _;injection e1 with e1;injection e1 with e1 _ _;omega
theorem Bv.change {w w':World} {v:Value} {xs:List aH} {g:Nat} (h:Bv w v xs) (hf:lV v g) (hs:w.heap.size<=w'.heap.size) (hb:∀k,k≠g->w'.heap[k]? =w.heap[k]?):Bv w' v xs:=by
 obtain⟨A,n,c,rfl,hr,hn⟩:=h;refine⟨A,n,c,rfl,⟨hr.1,hr.2.1,λh0=> ?_⟩,hn⟩;obtain⟨b,off,e,hb1,hcs⟩:=hr.2.2 h0;subst e;have hne:b≠g:=hf b off none n c rfl h0;refine⟨b,off,rfl,by omega,λi x hx j u hu=> ?_⟩;rw[World.cell?_of_block (hb b hne)];exact hcs i x hx j u hu
theorem Bv.cell {w:World} {v:Value} {xs:List aH} {g:Nat} (h:Bv w v xs) (hf:lV v g) (i:Nat) (u:Value):Bv (w.setCell ⟨g,i,none⟩ u) v xs:=h.change hf (by simp[World.setCell]) λk hk=>Below.heap_setCell w ⟨g,i,none⟩ u k hk
theorem iY.change {w w':World} {cs:Array Value} {p:Pl} {g:Nat} (h:iY w cs p) (hf:∀v,cs[0]? =some v->lV v g) (hs:w.heap.size<=w'.heap.size) (hb:∀k,k≠g->w'.heap[k]? =w.heap[k]?):iY w' cs p:=
 ⟨h.size,by obtain⟨v,h1,h2⟩:=h.list;exact⟨v,h1,h2.change (hf v h1) hs hb⟩,h.at_⟩
theorem iY.row {w:World} {cs:Array Value} {p:Pl} {g:Nat} (h:iY w cs p) (hf:∀v,cs[0]? =some v->lV v g) (rs:Array Value):iY (w.setRow g rs) cs p:=h.change hf (by simp[World.setRow]) λk hk=>setRow_other w g k rs hk
theorem iY.cell {w:World} {cs:Array Value} {p:Pl} {g:Nat} (h:iY w cs p) (hf:∀v,cs[0]? =some v->lV v g) (i:Nat) (u:Value):iY (w.setCell ⟨g,i,none⟩ u) cs p:=h.change hf (by simp[World.setCell]) λk hk=>Below.heap_setCell w ⟨g,i,none⟩ u k hk
theorem aLk {v:Value} {rs:Array Value} {g:Nat} (h:lV v g):∀u,(qA v rs)[0]? =some u->lV u g:=by
 intro u hu;rw[qA,Array.getElem?_append_left (by simp)] at hu;have:v=u:=by simpa using hu
 rw[<-this];exact h
theorem iY.far {w:World} {cs:Array Value} {p:Pl} (h:iY w cs p) {g:Nat} (hg:w.heap.size<=g):∀v,cs[0]? =some v->lV v g:=by
 intro v hv;obtain⟨u,hu,hb⟩:=h.list;rw[hu] at hv;cases hv;exact lV.old hb hg
def Ty (w:World) (x:Value):Prop:=∀b off s n c,x=.slice (some ⟨b,off,s⟩) n c->0<n->∃cur,Bx w b 184 cur
theorem Ty.below {w w':World} {x:Value} (h:Ty w x) (hb:Below w.heap.size w w'):Ty w' x:=λb off s n c e h0=>by
 obtain⟨cur,hx⟩:=h b off s n c e h0;exact⟨cur,hx.below hb⟩
theorem Gm {b g:Nat} {w:World} {T:TypeId} {c1 c2:Array Value} (h1:Bx w b 184 c1) (h2:Bx w g T c2) (hT:T≠184):¬b=g:=by
 rintro rfl;unfold Bx at h1 h2;rw[h1] at h2;injection h2 with h2;injection h2 with _ h2;exact hT h2.symm
theorem Ty.row {w:World} {x:Value} {g:Nat} {T:TypeId} {z:Array Value} (h:Ty w x) (hx:Bx w g T z) (hT:T≠184) (cs:Array Value):Ty (w.setRow g cs) x:=λb off s n c e h0=>by
 obtain⟨cur,hy⟩:=h b off s n c e h0;exact⟨cur,hy.kQ (Gm hy hx hT) cs⟩
theorem Ty.cell {w:World} {x:Value} {g:Nat} {T:TypeId} {z:Array Value} (h:Ty w x) (hx:Bx w g T z) (hT:T≠184) (i:Nat) (u:Value):Ty (w.setCell ⟨g,i,none⟩ u) x:=λb off s n c e h0=>by
 obtain⟨cur,hy⟩:=h b off s n c e h0;exact⟨cur,hy.other (Gm hy hx hT) i u⟩
theorem Ty.of {w:World} {base:Nat} {x:Value} {xs:List aH} (h:Os lQ 2 184 w base x xs):Ty w x:=by
 rintro b off s n c rfl h0;obtain⟨_,⟨e,_⟩|⟨g,cap,cur,e,_,hh,_⟩⟩:=h
 ·cases e
 ·injection e with e
  injection e with e;injection e with e;subst e;exact⟨cur,hh⟩
theorem Ty.nil {w:World} {c:Nat} :Ty w (.slice none 0 c):=λb off s n c e=>by cases e
def aL6 (w:World) (q:Pl) (e:Ending) (w':World):Prop:=∃cs,e=.returned (.agg cs)/\iY w' cs q/\(∀x,cs[0]? =some x->(∀b,b<w.heap.size->lV x b)/\Ty w' x)/\Below w.heap.size w w'
theorem aN1 (w:World):Calls Tryz.prog 59 #[] w λe w'=>∃v,e=.returned v/\Bv w' v Kt/\(∀g,g<w.heap.size->lV v g)/\Ty w' v/\Below w.heap.size w w':=
 (aJG w).mono λe w' ⟨v,h1,h2,h3⟩=>⟨v,h1,Bv.of h2 (by decide),λg hg=>lV.new h2 hg,Ty.of h2,h3⟩
theorem aMe {w:World} {v:Value} {xs:List aH} (h:Bv w v xs) (hf:∀x∈xs,x.fits) (o:Int) (ho:eG o):Calls Tryz.prog 151 #[v,.int .i64 o] w λe w'=>∃u,e=.returned (.tuple #[u,.int .i64 (bQ xs o).2.1,.int .i64 (bQ xs o).2.2])/\Bv w' u (bQ xs o).1/\(∀g,g<w.heap.size->lV u g)/\Ty w' u/\Below w.heap.size w w':=by
 obtain⟨A,n,c,rfl,hr,hn⟩:=h;exact(aIe A n c xs o ho w _ hr hf (nR _) hn).mono λe w' ⟨u,h1,h2,h3⟩=>⟨u,h1,Bv.of h2 (by have:=Ol (aIf xs o);omega),λg hg=>lV.new h2 hg,Ty.of h2,h3⟩
theorem aNn {w:World} {v:Value} {xs:List aH} (h:Bv w v xs) (hf:∀x∈xs,x.fits) (b:aH) (hb:b.fits):Calls Tryz.prog 157 #[v,.agg #[.int .i64 b.a,.int .i64 b.o]] w λe w'=>∃u,e=.returned (.tuple #[u,.int .i64 (mF xs b).2])/\Bv w' u (mF xs b).1/\(∀g,g<w.heap.size->lV u g)/\Ty w' u/\Below w.heap.size w w':=by
 obtain⟨A,n,c,rfl,hr,hn⟩:=h;exact(aJe A n c xs b hb w _ hr hf (nR _) hn).mono λe w' ⟨u,h1,h2,h3⟩=>⟨u,h1,Bv.of h2 (by have:=Ol (aJf xs b);omega),λg hg=>lV.new h2 hg,Ty.of h2,h3⟩
theorem aIG:(⟨Kt,λ_=>0⟩:Pl)=gJ λ_=>0:=by
 unfold gJ;refine congrArg (λl=>(⟨l,_⟩:Pl)) (Ak aMG λn hn=> ?_).symm;rw[aLj];exact⟨λ_=>rfl,λ_=>⟨by omega,by omega⟩⟩
theorem aMH (w:World):Calls Tryz.prog 34 #[] w (aL6 w (gJ λ_=>0)):=by
 have HN:=hZ (aN1 (w.alloc (.cells zP 57)));have HW0:=hZ ((Below.refl w.heap.size w).alloc (nR _) (.cells zP 57));have HX0:=hZ (Bx.new w 57 zP);go_enter Tryz.func34,Tryz.ntmps34;go_wp2_with(first
  |(with_reducible refine Mm ?_)
  |((with_reducible refine aPb (A:=A) (n:=n) (c:=c) ?_ ?_);rfl)
  |((with_reducible refine Ej w.heap.size (qA (.slice A n c) zR) ?_ ?_ zC.out dU HM.out.size HM.out.one ?_);rfl;rfl)
  |(go_at_call 59
    refine HN.out.mono ?_;rintro e w1 ⟨v1,rfl,hv1,hf1,aM2,hb1⟩;have HTY:=hZ aM2;have jT:=hZ hf1;clear aM2;have HM:=hZ (aFg hv1 aBi);have zC:=hZ (HX0.out.below hb1);have HB1:=hZ (HW0.out.trans (hb1.mono HW0.out.size));have xX:=hZ (hf1 w.heap.size (by simp));obtain⟨A,n,c,rfl,_⟩:=hv1;clear hb1 hf1))
 try simp only[Exit.inBlock,Exit.then]
 refine bodyPost_ret (v:=.agg (qA (.slice A n c) zR)) ?_ rfl ⟨_,rfl,?_,λx hx=> ?_,below_setRow HB1.out (nR _) _⟩
 ·rw[bZ rfl]
  simp[asAddr,Result.andThen,Act.put,Ig (zC.out.row _) HM.out.size]
 ·rw[<-aIG]
  exact HM.out.row (aLk xX.out) _
 ·rw[qA,Array.getElem?_append_left (by simp)] at hx
  have hx2:Value.slice A n c=x:=by simpa using hx
  subst hx2;exact⟨λb hb=>jT.out b (by simp;omega),(HTY.out.row zC.out (by decide) _)⟩
def aKk (p:Pl):Prop:=(∀x∈p.f,x.fits)/\∀n,n<64->eG (p.r n)
theorem aIJ {p:Pl} {n:Int} (h:eD p=false):eH p n=1:=by unfold eH;rw[if_neg (by rw[h];exact Bool.false_ne_true)]
theorem aII {p:Pl} {n:Int} (h:eD p=true) (h2:¬(0<=n/\n<64/\p.r n.toNat≠0)):eH p n=3:=by unfold eH;rw[if_pos h,if_neg h2]
theorem aIK {p:Pl} {n:Int} (h:eD p=true) (h2:0<=n/\n<64/\p.r n.toNat≠0):eH p n=0:=by unfold eH;rw[if_pos h,if_pos h2]
theorem aEl {w:World} {cs:Array Value} {p:Pl} (h:iY w cs p) (hf:∀x∈p.f,x.fits) (n:Int):
 Calls Tryz.prog 156 #[.agg cs,.int .i64 n] w λe w'=>e=.returned (.int .i64 (eH p n))/\Below w.heap.size w w':=by
 have HW0:=hZ ((Below.refl w.heap.size w).alloc (nR _) (.cells cs 57));have tT:=hZ (Bx.new w 57 cs);have HP:=hZ h;have iC:=hZ h.size;have qC:=aBW (h.below HW0.out) hf;have HM1:=hZ (aIJ (p:=p) (n:=n));have HM3:=hZ (aII (p:=p) (n:=n));have HM0:=hZ (aIK (p:=p) (n:=n));clear h hf;generalize eH p n=res at*;cases hr:eD p with
 |false=>
  rw[hr] at qC;have aP:=hZ (HM1.out hr);clear hr;go_enter Tryz.func156,Tryz.ntmps156;go_wp2_with(first
   |((with_reducible refine uR w.heap.size ?_ tT.out iC.out ?_);rfl)
   |(go_at_call 150;refine qC.mono ?_;rintro e w1 ⟨rfl,hb1⟩))
  go_ret;exact⟨iR aP.out.symm,HW0.out.trans (hb1.mono HW0.out.size)⟩
 |true=>
  rw[hr] at qC;have HR:=hZ hr;clear hr;by_cases h1:n<0
  ·have aP:=hZ (HM3.out HR.out (by omega))
   have hd:decide (n<0)=true:=decide_eq_true h1;go_enter Tryz.func156,Tryz.ntmps156;go_wp2_with(first
    |((with_reducible refine uR w.heap.size ?_ tT.out iC.out ?_);rfl)
    |(go_at_call 150;refine qC.mono ?_;rintro e w1 ⟨rfl,hb1⟩))
   go_ret;exact⟨iR aP.out.symm,HW0.out.trans (hb1.mono HW0.out.size)⟩
  by_cases h2:64<=n
  ·have aP:=hZ (HM3.out HR.out (by omega))
   have hd:decide (n<0)=false:=decide_eq_false h1;have hd2:decide (64<=n)=true:=decide_eq_true h2;go_enter Tryz.func156,Tryz.ntmps156;go_wp2_with(first
    |((with_reducible refine uR w.heap.size ?_ tT.out iC.out ?_);rfl)
    |(go_at_call 150;refine qC.mono ?_;rintro e w1 ⟨rfl,hb1⟩))
   go_ret;exact⟨iR aP.out.symm,HW0.out.trans (hb1.mono HW0.out.size)⟩
  obtain⟨m,rfl⟩:=Int.eq_ofNat_of_zero_le (show 0<=n by omega);have hm:m<64:=by omega
  have hm0:(0:Int)<=(m:Int):=by omega
  have aOJ:(m:Int)<64:=by omega
  have HAT:=hZ (HP.out.at_ m hm);have HZ:Hid (p.r ((m:Nat):Int).toNat=p.r m):=hZ rfl;have HZE:Hid (p.r m=0->res=3):=hZ (λe=>HM3.out HR.out (by rw[HZ.out,e];simp));have HZN:Hid (p.r m≠0->res=0):=hZ (λe=>HM0.out HR.out ⟨hm0,aOJ,by rw[HZ.out];exact e⟩);clear HZ;generalize p.r m=rm at*;by_cases h0:rm=0
  ·have aP:=hZ (HZE.out h0)
   subst h0;go_enter Tryz.func156,Tryz.ntmps156;go_wp2_with(first
    |((with_reducible refine uR w.heap.size ?_ tT.out iC.out ?_);rfl)
    |(go_at_call 150
      refine qC.mono ?_;rintro e w1 ⟨rfl,hb1⟩;have K1:=hZ (HW0.out.trans (hb1.mono HW0.out.size));have hg1:w.heap.size<w1.heap.size:=(tT.out.below hb1).lt;have c1:w1.cell? ⟨w.heap.size,1+m,none⟩=some (.int .i64 0):=by rw[(tT.out.below hb1).cell,Nat.add_comm];exact HAT.out
      clear hb1))
   go_ret;exact⟨iR aP.out.symm,K1.out⟩
  ·have aP:=hZ (HZN.out h0)
   have hq:(rm==0)=false:=by rw[beq_eq_false_iff_ne];exact h0
   go_enter Tryz.func156,Tryz.ntmps156;go_wp2_with(first
    |((with_reducible refine uR w.heap.size ?_ tT.out iC.out ?_);rfl)
    |(go_at_call 150
      refine qC.mono ?_;rintro e w1 ⟨rfl,hb1⟩;have K1:=hZ (HW0.out.trans (hb1.mono HW0.out.size));have hg1:w.heap.size<w1.heap.size:=(tT.out.below hb1).lt;have c1:w1.cell? ⟨w.heap.size,1+m,none⟩=some (.int .i64 rm):=by rw[(tT.out.below hb1).cell,Nat.add_comm];exact HAT.out
      clear hb1))
   go_ret;exact⟨iR aP.out.symm,K1.out⟩
def Zz (w:World) (cs cs':Array Value):Prop:=∀g,g<w.heap.size->(∀v,cs[0]? =some v->lV v g)->∀v,cs'[0]? =some v->lV v g
def Xy (w:World) (c0 cs:Array Value) (W:World):Prop:=(∀x,c0[0]? =some x->Ty w x)->∀x,cs[0]? =some x->Ty W x
theorem aDZ {w W:World} (hb:Below w.heap.size w W) (cs:Array Value) (m:Nat) (x:Value):Xy w cs (cs.setIfInBounds (1+m) x) W:=λh v hv=>by
 rw[Array.getElem?_setIfInBounds_ne (by omega)] at hv;exact(h v hv).below hb
theorem Vx (w W:World) (cs:Array Value):Xy w cs zP W:=λ_ v hv=>by
 have:v=.slice none 0 0:=by
  rw[zP,Array.getElem?_append_left (by simp)] at hv;simpa using hv.symm
 subst this;exact Ty.nil
theorem Xy.row {w W:World} {c0 cs:Array Value} {g:Nat} {T:TypeId} {z:Array Value} (h:Xy w c0 cs W) (hx:Bx W g T z) (hT:T≠184) (rs:Array Value):Xy w c0 cs (W.setRow g rs):=λh0 x hx'=>(h h0 x hx').row hx hT rs
def Zy (w:World) (c0:Array Value) (r:Pl×Int) (e:Ending) (w':World):Prop:=∃cs,e=.returned (.tuple #[.agg cs,.int .i64 r.2])/\iY w' cs r.1/\Zz w c0 cs/\Xy w c0 cs w'/\Below w.heap.size w w'
def aEO (w:World) (c0:Array Value) (r:Pl×Int×Int) (e:Ending) (w':World):Prop:=∃cs,e=.returned (.tuple #[.agg cs,.int .i64 r.2.1,.int .i64 r.2.2])/\iY w' cs r.1/\Zz w c0 cs/\Xy w c0 cs w'/\Below w.heap.size w w'
theorem Rl {w W:World} {g:Nat} {z c0 cs:Array Value} {r:Pl×Int} (hx:Bx W g 57 z) (hv:iY W cs r.1) (hf:∀v,cs[0]? =some v->lV v g) (hb:Below w.heap.size w W) (hg:w.heap.size<=g) (hk:Zz w c0 cs) (ht:Xy w c0 cs W):Zy w c0 r (.returned (.tuple #[.agg cs,.int .i64 r.2])) (W.setRow g cs):=
 ⟨cs,rfl,hv.row hf _,hk,ht.row hx (by decide) _,below_setRow hb hg _⟩
theorem aFJ {w W:World} {g:Nat} {z c0 cs:Array Value} {r:Pl×Int×Int} (hx:Bx W g 57 z) (hv:iY W cs r.1) (hf:∀v,cs[0]? =some v->lV v g) (hb:Below w.heap.size w W) (hg:w.heap.size<=g) (hk:Zz w c0 cs) (ht:Xy w c0 cs W):aEO w c0 r (.returned (.tuple #[.agg cs,.int .i64 r.2.1,.int .i64 r.2.2])) (W.setRow g cs):=
 ⟨cs,rfl,hv.row hf _,hk,ht.row hx (by decide) _,below_setRow hb hg _⟩
theorem aCV (w:World) (cs:Array Value) (m:Nat) (x:Value):Zz w cs (cs.setIfInBounds (1+m) x):=λg _ h v hv=>by
 rw[Array.getElem?_setIfInBounds_ne (by omega)] at hv;exact h v hv
theorem Iu {g:Nat} :∀v,zP[0]? =some v->lV v g:=by
 intro v hv;have:v=.slice none 0 0:=by
  rw[zP,Array.getElem?_append_left (by simp)] at hv;simpa using hv.symm
 subst this;intro b off m n c e;cases e
theorem P7 (w:World) (cs:Array Value):Zz w cs zP:=λg _ _=>Iu
theorem aGQ (p:Pl) (n:Int):I7 p n=if eH p n=0 then(if p.r n.toNat<4 then((⟨p.f,aO p.r n.toNat (p.r n.toNat+1)⟩:Pl),(0:Int)) else(jA,4)) else(jA,eH p n):=rfl
theorem aKV {w:World} {cs:Array Value} {p:Pl} (h:iY w cs p) (hf:∀x∈p.f,x.fits) (n:Int):
 Calls Tryz.prog 122 #[.agg cs,.int .i64 n] w (Zy w cs (I7 p n)):=by
 have hA:=(Below.refl w.heap.size w).alloc (nR _) (.cells cs 57);have HW0:=hZ (hA.alloc hA.size (.cells zP 57));have HE:Hid ((w.alloc (.cells cs 57)).heap.size=w.heap.size+1):=hZ (by simp);have zC:Hid (Bx ((w.alloc (.cells cs 57)).alloc (.cells zP 57)) (w.heap.size+1) 57 zP):=hZ (by rw[<-HE.out];exact Bx.new _ _ _);have HX0:=hZ ((Bx.new w 57 cs).below ((Below.refl _ _).alloc (nR _) (.cells zP 57)));have HP:=hZ h;have iC:=hZ h.size;have hme:=aEl (h.below HW0.out) hf n;have HMZ:=hZ (Ku (p:=p) (n:=n));have HS:=hZ (aGQ p n);clear h hf hA;generalize I7 p n=rs at*;by_cases h0:eH p n=0
 ·rw[h0] at hme
  obtain⟨hr,hn0,hn1,hnz⟩:=HMZ.out h0;have HS2:Hid (rs=if p.r n.toNat<4 then((⟨p.f,aO p.r n.toNat (p.r n.toNat+1)⟩:Pl),(0:Int)) else(jA,4)):=hZ (by rw[HS.out,if_pos h0]);obtain⟨m,rfl⟩:=Int.eq_ofNat_of_zero_le hn0;have hm:m<64:=by omega
  have HAT:=hZ (HP.out.at_ m hm);have hnn:0<=p.r m:=(sH.1 hr).1 m hm;clear h0 HS HMZ hr hnz;simp only[Int.toNat_natCast] at HS2;have HUP:=hZ (λ(x:Int)=>HP.out.set m x);obtain⟨rm,hrm⟩:∃rm,rm=p.r m:=⟨_,rfl⟩;rw[<-hrm] at HS2 HAT hnn;clear hrm;by_cases h4:rm<4
  ·have aP:Hid (rs=((⟨p.f,aO p.r m (rm+1)⟩:Pl),(0:Int))):=hZ (by rw[HS2.out,if_pos h4])
   go_enter Tryz.func122,Tryz.ntmps122;go_wp2_with(first
    |(with_reducible refine Mm ?_)
    |((with_reducible refine uR w.heap.size ?_ HX0.out iC.out ?_);rfl)
    |((with_reducible refine uR w.heap.size ?_ HY0.out iG.out.size ?_);rfl)
    |((with_reducible refine Ej (w.heap.size+1) _ ?_ ?_ Fq.out dU iG.out.size iG.out.one ?_);rfl;rfl)
    |(go_at_call 156
      refine hme.mono ?_;rintro e w1 ⟨rfl,hb1⟩;have K1:=hZ (HW0.out.trans (hb1.mono HW0.out.size));have X0:=hZ (HX0.out.below hb1);have X1:=hZ (zC.out.below hb1);have hg1:w.heap.size<w1.heap.size:=X0.out.lt;have c1:w1.cell? ⟨w.heap.size,1+m,none⟩=some (.int .i64 rm):=by rw[X0.out.cell,Nat.add_comm];exact HAT.out
      have f1:w1.frozen? ⟨w.heap.size,1+m,none⟩=false:=X0.out.free _;have iG:Hid (iY (w1.setCell ⟨w.heap.size,1+m,none⟩ (.int .i64 (rm+1))) (cs.setIfInBounds (1+m) (.int .i64 (rm+1))) ⟨p.f,aO p.r m (rm+1)⟩):=hZ (((HP.out.below K1.out).set m (rm+1)).cell (((HP.out.set m (rm+1)).far (nR _))) _ _);have HY0:Hid (Bx (w1.setCell ⟨w.heap.size,1+m,none⟩ (.int .i64 (rm+1))) w.heap.size 57 (cs.setIfInBounds (1+m) (.int .i64 (rm+1)))):=hZ (X0.out.set _ _);have Fq:Hid (Bx (w1.setCell ⟨w.heap.size,1+m,none⟩ (.int .i64 (rm+1))) (w.heap.size+1) 57 zP):=hZ (X1.out.other (by omega) _ _);have HB2:Hid (Below w.heap.size w (w1.setCell ⟨w.heap.size,1+m,none⟩ (.int .i64 (rm+1)))):=hZ (K1.out.setCell (p:=⟨w.heap.size,1+m,none⟩) (nR _) _);clear hb1))
   try simp only[Exit.inBlock,Exit.then]
   refine bodyPost_ret (v:=.tuple #[.agg (cs.setIfInBounds (1+m) (.int .i64 (rm+1))),.int .i64 0]) ?_ rfl ?_;rotate_left
   ·rw[aP.out]
    exact Rl Fq.out iG.out (HP.out.set m (rm+1) |>.far (by omega)) HB2.out (by omega) (aCV _ _ _ _) (aDZ HB2.out _ _ _)
   ·rw[results_cell_tmp rfl]
    simp[asAddr,Result.andThen,Act.put,Ig (Fq.out.row _) iG.out.size]
  ·have aP:Hid (rs=(jA,(4:Int))):=hZ (by rw[HS2.out,if_neg h4])
   go_enter Tryz.func122,Tryz.ntmps122;go_wp2_with(first
    |(with_reducible refine Mm ?_)
    |(with_reducible refine aDi ?_)
    |((with_reducible refine uR w.heap.size ?_ HX0.out iC.out ?_);rfl)
    |((with_reducible refine Ej (w.heap.size+1) zP ?_ ?_ X1.out dU dU Ir ?_);rfl;rfl)
    |(go_at_call 156
      refine hme.mono ?_;rintro e w1 ⟨rfl,hb1⟩;have K1:=hZ (HW0.out.trans (hb1.mono HW0.out.size));have X0:=hZ (HX0.out.below hb1);have X1:=hZ (zC.out.below hb1);have hg1:w.heap.size<w1.heap.size:=X0.out.lt;have c1:w1.cell? ⟨w.heap.size,1+m,none⟩=some (.int .i64 rm):=by rw[X0.out.cell,Nat.add_comm];exact HAT.out
      clear hb1))
   try simp only[Exit.inBlock,Exit.then]
   refine bodyPost_ret (v:=.tuple #[.agg zP,.int .i64 4]) ?_ rfl ?_;rotate_left
   ·rw[aP.out]
    exact Rl X1.out (Yo _) Iu K1.out (by omega) (P7 _ _) (Vx _ _ _)
   ·rw[results_cell_tmp rfl]
    simp[asAddr,Result.andThen,Act.put,Ig (X1.out.row _) dU]
 ·have aP:Hid (rs=(jA,eH p n)):=hZ (by rw[HS.out,if_neg h0])
  obtain⟨er,her⟩:∃er,er=eH p n:=⟨_,rfl⟩;rw[<-her] at hme aP h0;have hne:(er !=0)=true:=by rw[bne_iff_ne];exact h0
  clear HS HMZ her;go_enter Tryz.func122,Tryz.ntmps122;go_wp2_with(first
   |(with_reducible refine Mm ?_)
   |(with_reducible refine aDi ?_)
   |((with_reducible refine uR w.heap.size ?_ HX0.out iC.out ?_);rfl)
   |((with_reducible refine Ej (w.heap.size+1) zP ?_ ?_ X1.out dU dU Ir ?_);rfl;rfl)
   |(go_at_call 156
     refine hme.mono ?_;rintro e w1 ⟨rfl,hb1⟩;have K1:=hZ (HW0.out.trans (hb1.mono HW0.out.size));have X1:=hZ (zC.out.below hb1);clear hb1))
  try simp only[Exit.inBlock,Exit.then]
  refine bodyPost_ret (v:=.tuple #[.agg zP,.int .i64 er]) ?_ rfl ?_;rotate_left
  ·rw[aP.out]
   exact Rl X1.out (Yo _) Iu K1.out (by omega) (P7 _ _) (Vx _ _ _)
  ·rw[results_cell_tmp rfl]
   simp[asAddr,Result.andThen,Act.put,Ig (X1.out.row _) dU]
theorem aIg (p:Pl):sD p=if eD p then(if(bQ p.f 0).2.2=0 then((⟨(bQ p.f 0).1,aO p.r (bQ p.f 0).2.1.toNat 1⟩:Pl),((bQ p.f 0).2.1,(0:Int))) else(jA,(0,(bQ p.f 0).2.2))) else(jA,(0,1)):=rfl
theorem aJs (p:Pl) (n:Int):Ro p n=if eH p n=0 then(if 0<p.r n.toNat -1 then((⟨p.f,aO p.r n.toNat (p.r n.toNat -1)⟩:Pl),(0:Int)) else(⟨(mF p.f ⟨n,0⟩).1,aO p.r n.toNat (p.r n.toNat -1)⟩,0)) else(jA,eH p n):=rfl
theorem aKP {w:World} {cs:Array Value} {p:Pl} (h:iY w cs p) (hf:∀x∈p.f,x.fits):
 Calls Tryz.prog 105 #[.agg cs] w (aEO w cs (sD p)):=by
 have hA:=(Below.refl w.heap.size w).alloc (nR _) (.cells cs 57);have HW0:=hZ (hA.alloc hA.size (.cells zP 57));have HE:Hid ((w.alloc (.cells cs 57)).heap.size=w.heap.size+1):=hZ (by simp);have zC:Hid (Bx ((w.alloc (.cells cs 57)).alloc (.cells zP 57)) (w.heap.size+1) 57 zP):=hZ (by rw[<-HE.out];exact Bx.new _ _ _);have HX0:=hZ ((Bx.new w 57 cs).below ((Below.refl _ _).alloc (nR _) (.cells zP 57)));have HP:=hZ h;have iC:=hZ h.size;have qC:=aBW (h.below HW0.out) hf;have HS:=hZ (aIg p);obtain⟨v,hv0,hbv⟩:=h.list;have oN:Hid (∀W,Below w.heap.size w W->_):=hZ (λW hb=>aMe (hbv.below hb) hf 0 (by unfold eG;omega));obtain⟨A,n,c,rfl,_⟩:=hbv;have HV0:=hZ hv0;have aKw:=hZ (λh1 h2=>aGA (p:=p) h1 h2);clear h hf hA hv0;generalize sD p=rs at*;cases hr:eD p with
 |false=>
  rw[hr] at qC;have aP:Hid (rs=(jA,((0:Int),(1:Int)))):=hZ (by rw[HS.out,hr];rfl);clear hr HS;go_enter Tryz.func105,Tryz.ntmps105;go_wp2_with(first
   |(with_reducible refine Mm ?_)
   |(with_reducible refine aDi ?_)
   |((with_reducible refine uR w.heap.size ?_ HX0.out iC.out ?_);rfl)
   |((with_reducible refine Ej (w.heap.size+1) zP ?_ ?_ X1.out dU dU Ir ?_);rfl;rfl)
   |(go_at_call 150
     refine qC.mono ?_;rintro e w1 ⟨rfl,hb1⟩;have K1:=hZ (HW0.out.trans (hb1.mono HW0.out.size));have X1:=hZ (zC.out.below hb1);clear hb1))
  try simp only[Exit.inBlock,Exit.then]
  refine bodyPost_ret (v:=.tuple #[.agg zP,.int .i64 0,.int .i64 1]) ?_ rfl ?_;rotate_left
  ·rw[aP.out]
   exact aFJ X1.out (Yo _) Iu K1.out (by omega) (P7 _ _) (Vx _ _ _)
  ·rw[vW rfl]
   simp[asAddr,Result.andThen,Act.put,Ig (X1.out.row _) dU]
 |true=>
  rw[hr] at qC;have HS2:Hid (rs=if(bQ p.f 0).2.2=0 then((⟨(bQ p.f 0).1,aO p.r (bQ p.f 0).2.1.toNat 1⟩:Pl),((bQ p.f 0).2.1,(0:Int))) else(jA,(0,(bQ p.f 0).2.2))):=hZ (by rw[HS.out,hr,if_pos rfl]);have Qx:=hZ (aKw.out hr);clear hr HS aKw;obtain⟨ts,hts⟩:∃ts,ts=bQ p.f 0:=⟨_,rfl⟩;rw[<-hts] at oN HS2 Qx;clear hts;obtain⟨tl,ta,te⟩:=ts;simp only at oN HS2 Qx;by_cases h0:te=0
  ·subst h0
   obtain⟨ha0,ha1,_⟩:=Qx.out rfl;obtain⟨m,rfl⟩:=Int.eq_ofNat_of_zero_le ha0;have hm:m<64:=by omega
   have aP:Hid (rs=((⟨tl,aO p.r m 1⟩:Pl),((m:Int),(0:Int)))):=hZ (by rw[HS2.out,if_pos rfl];rfl);have HAT:=hZ (HP.out.at_ m hm);clear HS2 Qx HAT;go_enter Tryz.func105,Tryz.ntmps105;go_wp2_with(first
    |(with_reducible refine Mm ?_)
    |((with_reducible refine uR w.heap.size ?_ HX0.out iC.out ?_);rfl)
    |((with_reducible refine uR w.heap.size ?_ HY0.out iG.out.size ?_);rfl)
    |((with_reducible refine Ej (w.heap.size+1) _ ?_ ?_ Fq.out dU iG.out.size iG.out.one ?_);rfl;rfl)
    |(go_at_call 151
      refine(oN.out w1 K1.out).mono ?_;rintro e w2 ⟨u2,rfl,hu2,hf2,hty,hb2⟩;have K2:=hZ (K1.out.trans (hb2.mono K1.out.size));have Y0:=hZ (X0.out.below hb2);have Y1:=hZ (X1.out.below hb2);have hg2:w.heap.size<w2.heap.size:=Y0.out.lt;have c2:w2.cell? ⟨w.heap.size,0,none⟩=some (.slice A n c):=by rw[Y0.out.cell];exact HV0.out
      have c3:w2.cell? ⟨w.heap.size,1+m,none⟩=some (.int .i64 (p.r m)):=by rw[Y0.out.cell,Nat.add_comm];exact HP.out.at_ m hm
      have f2:w2.frozen? ⟨w.heap.size,0,none⟩=false:=Y0.out.free _;have f3:w2.frozen? ⟨w.heap.size,1+m,none⟩=false:=Y0.out.free _;have HFU:=hZ (hf2 w.heap.size (by omega));have aJ1:=hZ (hf2 (w.heap.size+1) (by have:=X1.out.lt;omega));have HFG:Hid (∀g,g<w.heap.size->lV u2 g):=hZ (λg hg=>hf2 g (Nat.lt_trans hg X0.out.lt));have iG:Hid (iY ((w2.setCell ⟨w.heap.size,0,none⟩ u2).setCell ⟨w.heap.size,1+m,none⟩ (.int .i64 1)) ((cs.setIfInBounds 0 u2).setIfInBounds (1+m) (.int .i64 1)) ⟨tl,aO p.r m 1⟩):=hZ (by
       have q:=((HP.out.below K2.out).put hu2).set m 1;have uV:∀v,((cs.setIfInBounds 0 u2).setIfInBounds (1+m) (.int .i64 1))[0]? =some v->lV v w.heap.size:=by
        intro v hv;rw[Array.getElem?_setIfInBounds_ne (by omega),Array.getElem?_setIfInBounds_self_of_lt (by rw[iC.out];omega)] at hv;cases hv;exact HFU.out
       exact(q.cell uV _ _).cell uV _ _)
      have HY0:Hid (Bx ((w2.setCell ⟨w.heap.size,0,none⟩ u2).setCell ⟨w.heap.size,1+m,none⟩ (.int .i64 1)) w.heap.size 57 ((cs.setIfInBounds 0 u2).setIfInBounds (1+m) (.int .i64 1))):=hZ ((Y0.out.set _ _).set _ _);have Fq:Hid (Bx ((w2.setCell ⟨w.heap.size,0,none⟩ u2).setCell ⟨w.heap.size,1+m,none⟩ (.int .i64 1)) (w.heap.size+1) 57 zP):=hZ ((Y1.out.other (by omega) _ _).other (by omega) _ _);have HB2:Hid (Below w.heap.size w ((w2.setCell ⟨w.heap.size,0,none⟩ u2).setCell ⟨w.heap.size,1+m,none⟩ (.int .i64 1))):=hZ ((K2.out.setCell (p:=⟨w.heap.size,0,none⟩) (nR _) _).setCell (p:=⟨w.heap.size,1+m,none⟩) (nR _) _);have HTY:Hid (Ty ((w2.setCell ⟨w.heap.size,0,none⟩ u2).setCell ⟨w.heap.size,1+m,none⟩ (.int .i64 1)) u2):=hZ ((hty.cell Y0.out (by decide) _ _).cell (Y0.out.set _ _) (by decide) _ _);have hone:u2.oneCell'=true:=aDd hu2;obtain⟨A2,n2,c2',rfl,_⟩:=hu2;clear hb2 hf2 hty c1)
    |(go_at_call 150
      refine qC.mono ?_;rintro e w1 ⟨rfl,hb1⟩;have K1:=hZ (HW0.out.trans (hb1.mono HW0.out.size));have X0:=hZ (HX0.out.below hb1);have X1:=hZ (zC.out.below hb1);have hg1:w.heap.size<w1.heap.size:=X0.out.lt;have c1:w1.cell? ⟨w.heap.size,0,none⟩=some (.slice A n c):=by rw[X0.out.cell];exact HV0.out
      clear hb1))
   try simp only[Exit.inBlock,Exit.then]
   refine bodyPost_ret (v:=.tuple #[.agg ((cs.setIfInBounds 0 (.slice A2 n2 c2')).setIfInBounds (1+m) (.int .i64 1)),.int .i64 m,.int .i64 0]) ?_ rfl ?_;rotate_left
   ·rw[aP.out]
    refine aFJ Fq.out iG.out ?_ HB2.out (by omega) ?_ ?_
    ·intro v hv
     rw[Array.getElem?_setIfInBounds_ne (by omega),Array.getElem?_setIfInBounds_self_of_lt (by rw[iC.out];omega)] at hv;cases hv;exact aJ1.out
    ·intro g hg _ v hv
     rw[Array.getElem?_setIfInBounds_ne (by omega),Array.getElem?_setIfInBounds_self_of_lt (by rw[iC.out];omega)] at hv;cases hv;exact HFG.out g hg
    ·intro _ v hv
     rw[Array.getElem?_setIfInBounds_ne (by omega),Array.getElem?_setIfInBounds_self_of_lt (by rw[iC.out];omega)] at hv;cases hv;exact HTY.out
   ·rw[vW rfl]
    simp[asAddr,Result.andThen,Act.put,Ig (Fq.out.row _) iG.out.size]
  ·have aP:Hid (rs=(jA,((0:Int),te))):=hZ (by rw[HS2.out,if_neg h0])
   have hne:(te !=0)=true:=by rw[bne_iff_ne];exact h0
   clear HS2 Qx;go_enter Tryz.func105,Tryz.ntmps105;go_wp2_with(first
    |(with_reducible refine Mm ?_)
    |(with_reducible refine aDi ?_)
    |((with_reducible refine uR w.heap.size ?_ HX0.out iC.out ?_);rfl)
    |((with_reducible refine Ej (w.heap.size+1) zP ?_ ?_ Y1.out dU dU Ir ?_);rfl;rfl)
    |(go_at_call 151
      refine(oN.out w1 K1.out).mono ?_;rintro e w2 ⟨u2,rfl,hu2,hf2,hty,hb2⟩;have K2:=hZ (K1.out.trans (hb2.mono K1.out.size));have Y1:=hZ (X1.out.below hb2);clear hb2 hf2 hty hu2 c1)
    |(go_at_call 150
      refine qC.mono ?_;rintro e w1 ⟨rfl,hb1⟩;have K1:=hZ (HW0.out.trans (hb1.mono HW0.out.size));have X0:=hZ (HX0.out.below hb1);have X1:=hZ (zC.out.below hb1);have hg1:w.heap.size<w1.heap.size:=X0.out.lt;have c1:w1.cell? ⟨w.heap.size,0,none⟩=some (.slice A n c):=by rw[X0.out.cell];exact HV0.out
      clear hb1))
   try simp only[Exit.inBlock,Exit.then]
   refine bodyPost_ret (v:=.tuple #[.agg zP,.int .i64 0,.int .i64 te]) ?_ rfl ?_;rotate_left
   ·rw[aP.out]
    exact aFJ Y1.out (Yo _) Iu K2.out (by omega) (P7 _ _) (Vx _ _ _)
   ·rw[vW rfl]
    simp[asAddr,Result.andThen,Act.put,Ig (Y1.out.row _) dU]
theorem aLU {w:World} {cs:Array Value} {p:Pl} (h:iY w cs p) (hf:aKk p) (n:Int):
 Calls Tryz.prog 116 #[.agg cs,.int .i64 n] w (Zy w cs (Ro p n)):=by
 have hA:=(Below.refl w.heap.size w).alloc (nR _) (.cells cs 57);have HW0:=hZ (hA.alloc hA.size (.cells zP 57));have HE:Hid ((w.alloc (.cells cs 57)).heap.size=w.heap.size+1):=hZ (by simp);have zC:Hid (Bx ((w.alloc (.cells cs 57)).alloc (.cells zP 57)) (w.heap.size+1) 57 zP):=hZ (by rw[<-HE.out];exact Bx.new _ _ _);have HX0:=hZ ((Bx.new w 57 cs).below ((Below.refl _ _).alloc (nR _) (.cells zP 57)));have HP:=hZ h;have iC:=hZ h.size;have hme:=aEl (h.below HW0.out) hf.1 n;have aNO:=hZ hf;have HMZ:=hZ (Ku (p:=p) (n:=n));have HDG:=hZ (aAM (p:=p) (n:=n));have HS:=hZ (aJs p n);obtain⟨v,hv0,hbv⟩:=h.list;have HBV:=hZ hbv;obtain⟨A,nn,c,rfl,_⟩:=hbv;have HV0:=hZ hv0;clear h hf hA hv0;generalize Ro p n=rs at*;by_cases h0:eH p n=0
 ·rw[h0] at hme
  obtain⟨hr,hn0,hn1,hnz⟩:=HMZ.out h0;have HG:=hZ (HDG.out h0);have HS2:Hid (rs=if 0<p.r n.toNat -1 then((⟨p.f,aO p.r n.toNat (p.r n.toNat -1)⟩:Pl),(0:Int)) else(⟨(mF p.f ⟨n,0⟩).1,aO p.r n.toNat (p.r n.toNat -1)⟩,0)):=hZ (by rw[HS.out,if_pos h0]);obtain⟨m,rfl⟩:=Int.eq_ofNat_of_zero_le hn0;have hm:m<64:=by omega
  have HAT:=hZ (HP.out.at_ m hm);have hnn:0<=p.r m:=(sH.1 hr).1 m hm;have hfi:eG (p.r m):=aNO.out.2 m hm;unfold eG at hfi;simp only[Int.toNat_natCast] at HS2 hnz;have HGV:Hid (∀W,Bv W (.slice A nn c) p.f->Calls Tryz.prog 157 #[.slice A nn c,.agg #[.int .i64 (m:Int),.int .i64 0]] W λe w'=>∃u,e=.returned (.tuple #[u,.int .i64 0])/\Bv w' u (mF p.f ⟨(m:Int),0⟩).1/\(∀g,g<W.heap.size->lV u g)/\Ty w' u/\Below W.heap.size W w'):=hZ (λW hW=>by
   have:=aNn hW aNO.out.1 ⟨(m:Int),0⟩ (aB5 (ok_one (by omega) (by omega)));rw[show(mF p.f ⟨(m:Int),0⟩).2=0 from by rw[HG.out]] at this;exact this)
  obtain⟨gl,hgl⟩:∃gl,gl=(mF p.f ⟨(m:Int),0⟩).1:=⟨_,rfl⟩;rw[<-hgl] at HS2 HGV;clear h0 HS HMZ hr HDG HG hgl;obtain⟨rm,hrm⟩:∃rm,rm=p.r m:=⟨_,rfl⟩;rw[<-hrm] at HS2 HAT hnn hfi hnz;clear hrm;have hrm1:1<=rm:=by omega
  clear hnn hnz;by_cases h1:0<rm -1
  ·have aP:Hid (rs=((⟨p.f,aO p.r m (rm -1)⟩:Pl),(0:Int))):=hZ (by rw[HS2.out,if_pos h1])
   have h1':1<rm:=by omega
   go_enter Tryz.func116,Tryz.ntmps116;go_wp2_with(first
    |(with_reducible refine Mm ?_)
    |((with_reducible refine uR w.heap.size ?_ HX0.out iC.out ?_);rfl)
    |((with_reducible refine uR w.heap.size ?_ HY0.out iG.out.size ?_);rfl)
    |((with_reducible refine Ej (w.heap.size+1) _ ?_ ?_ Fq.out dU iG.out.size iG.out.one ?_);rfl;rfl)
    |(go_at_call 156
      refine hme.mono ?_;rintro e w1 ⟨rfl,hb1⟩;have K1:=hZ (HW0.out.trans (hb1.mono HW0.out.size));have X0:=hZ (HX0.out.below hb1);have X1:=hZ (zC.out.below hb1);have hg1:w.heap.size<w1.heap.size:=X0.out.lt;have c1:w1.cell? ⟨w.heap.size,1+m,none⟩=some (.int .i64 rm):=by rw[X0.out.cell,Nat.add_comm];exact HAT.out
      have f1:w1.frozen? ⟨w.heap.size,1+m,none⟩=false:=X0.out.free _;have iG:Hid (iY (w1.setCell ⟨w.heap.size,1+m,none⟩ (.int .i64 (rm -1))) (cs.setIfInBounds (1+m) (.int .i64 (rm -1))) ⟨p.f,aO p.r m (rm -1)⟩):=hZ (((HP.out.below K1.out).set m (rm -1)).cell (((HP.out.set m (rm -1)).far (nR _))) _ _);have HY0:Hid (Bx (w1.setCell ⟨w.heap.size,1+m,none⟩ (.int .i64 (rm -1))) w.heap.size 57 (cs.setIfInBounds (1+m) (.int .i64 (rm -1)))):=hZ (X0.out.set _ _);have Fq:Hid (Bx (w1.setCell ⟨w.heap.size,1+m,none⟩ (.int .i64 (rm -1))) (w.heap.size+1) 57 zP):=hZ (X1.out.other (by omega) _ _);have HB2:Hid (Below w.heap.size w (w1.setCell ⟨w.heap.size,1+m,none⟩ (.int .i64 (rm -1)))):=hZ (K1.out.setCell (p:=⟨w.heap.size,1+m,none⟩) (nR _) _);clear hb1))
   try simp only[Exit.inBlock,Exit.then]
   refine bodyPost_ret (v:=.tuple #[.agg (cs.setIfInBounds (1+m) (.int .i64 (rm -1))),.int .i64 0]) ?_ rfl ?_;rotate_left
   ·rw[aP.out]
    exact Rl Fq.out iG.out (HP.out.set m (rm -1) |>.far (by omega)) HB2.out (by omega) (aCV _ _ _ _) (aDZ HB2.out _ _ _)
   ·rw[results_cell_tmp rfl]
    simp[asAddr,Result.andThen,Act.put,Ig (Fq.out.row _) iG.out.size]
  ·have he1:rm=1:=by omega
   subst he1;have aP:Hid (rs=((⟨gl,aO p.r m 0⟩:Pl),(0:Int))):=hZ (by rw[HS2.out,if_neg h1];rfl);go_enter Tryz.func116,Tryz.ntmps116;go_wp2_with(first
    |(with_reducible refine Mm ?_)
    |((with_reducible refine uR w.heap.size ?_ HX0.out iC.out ?_);rfl)
    |((with_reducible refine uR w.heap.size ?_ HY0.out iG.out.size ?_);rfl)
    |((with_reducible refine Ej (w.heap.size+1) _ ?_ ?_ Fq.out dU iG.out.size iG.out.one ?_);rfl;rfl)
    |(go_at_call 157
      refine(HGV.out _ aPt.out).mono ?_;rintro e w2 ⟨u2,rfl,hu2,hf2,hty,hb2⟩;have K2:=hZ (KS.out.trans (hb2.mono KS.out.size));have Y0:=hZ (S0.out.below hb2);have Y1:=hZ (S1.out.below hb2);have hg2:w.heap.size<w2.heap.size:=Y0.out.lt;have c2:w2.cell? ⟨w.heap.size,0,none⟩=some (.slice A nn c):=by rw[Y0.out.cell,Array.getElem?_setIfInBounds_ne (by omega)];exact HV0.out
      have f2:w2.frozen? ⟨w.heap.size,0,none⟩=false:=Y0.out.free _;have HFU:=hZ (hf2 w.heap.size S0.out.lt);have aJ1:=hZ (hf2 (w.heap.size+1) S1.out.lt);have HFG:Hid (∀g,g<w.heap.size->lV u2 g):=hZ (λg hg=>hf2 g (Nat.lt_trans hg S0.out.lt));have iG:Hid (iY (w2.setCell ⟨w.heap.size,0,none⟩ u2) ((cs.setIfInBounds (1+m) (.int .i64 0)).setIfInBounds 0 u2) ⟨gl,aO p.r m 0⟩):=hZ (by
       have q:=((HP.out.below K2.out).set m 0).put hu2;refine q.cell (λv hv=> ?_) _ _;rw[Array.getElem?_setIfInBounds_self_of_lt (by rw[Array.size_setIfInBounds,iC.out];omega)] at hv;cases hv;exact HFU.out)
      have HY0:Hid (Bx (w2.setCell ⟨w.heap.size,0,none⟩ u2) w.heap.size 57 ((cs.setIfInBounds (1+m) (.int .i64 0)).setIfInBounds 0 u2)):=hZ (Y0.out.set _ _);have Fq:Hid (Bx (w2.setCell ⟨w.heap.size,0,none⟩ u2) (w.heap.size+1) 57 zP):=hZ (Y1.out.other (by omega) _ _);have HB2:Hid (Below w.heap.size w (w2.setCell ⟨w.heap.size,0,none⟩ u2)):=hZ (K2.out.setCell (p:=⟨w.heap.size,0,none⟩) (nR _) _);have HTY:Hid (Ty (w2.setCell ⟨w.heap.size,0,none⟩ u2) u2):=hZ (hty.cell Y0.out (by decide) _ _);have hone:u2.oneCell'=true:=aDd hu2;obtain⟨A2,n2,c2',rfl,_⟩:=hu2;clear hb2 hf2 hty c1 c0 f1)
    |(go_at_call 156
      refine hme.mono ?_;rintro e w1 ⟨rfl,hb1⟩;have K1:=hZ (HW0.out.trans (hb1.mono HW0.out.size));have X0:=hZ (HX0.out.below hb1);have X1:=hZ (zC.out.below hb1);have hg1:w.heap.size<w1.heap.size:=X0.out.lt;have c0:w1.cell? ⟨w.heap.size,0,none⟩=some (.slice A nn c):=by rw[X0.out.cell];exact HV0.out
      have c1:w1.cell? ⟨w.heap.size,1+m,none⟩=some (.int .i64 1):=by rw[X0.out.cell,Nat.add_comm];exact HAT.out
      have f1:w1.frozen? ⟨w.heap.size,1+m,none⟩=false:=X0.out.free _;have S0:Hid (Bx (w1.setCell ⟨w.heap.size,1+m,none⟩ (.int .i64 0)) w.heap.size 57 (cs.setIfInBounds (1+m) (.int .i64 0))):=hZ (X0.out.set _ _);have S1:Hid (Bx (w1.setCell ⟨w.heap.size,1+m,none⟩ (.int .i64 0)) (w.heap.size+1) 57 zP):=hZ (X1.out.other (by omega) _ _);have KS:Hid (Below w.heap.size w (w1.setCell ⟨w.heap.size,1+m,none⟩ (.int .i64 0))):=hZ (K1.out.setCell (p:=⟨w.heap.size,1+m,none⟩) (nR _) _);have aPt:Hid (Bv (w1.setCell ⟨w.heap.size,1+m,none⟩ (.int .i64 0)) (.slice A nn c) p.f):=hZ ((HBV.out.below K1.out).cell (lV.old HBV.out (nR _)) _ _);clear hb1))
   try simp only[Exit.inBlock,Exit.then]
   refine bodyPost_ret (v:=.tuple #[.agg ((cs.setIfInBounds (1+m) (.int .i64 0)).setIfInBounds 0 (.slice A2 n2 c2')),.int .i64 0]) ?_ rfl ?_;rotate_left
   ·rw[aP.out]
    refine Rl Fq.out iG.out ?_ HB2.out (by omega) ?_ ?_
    ·intro v hv
     rw[Array.getElem?_setIfInBounds_self_of_lt (by rw[Array.size_setIfInBounds,iC.out];omega)] at hv;cases hv;exact aJ1.out
    ·intro g hg _ v hv
     rw[Array.getElem?_setIfInBounds_self_of_lt (by rw[Array.size_setIfInBounds,iC.out];omega)] at hv;cases hv;exact HFG.out g hg
    ·intro _ v hv
     rw[Array.getElem?_setIfInBounds_self_of_lt (by rw[Array.size_setIfInBounds,iC.out];omega)] at hv;cases hv;exact HTY.out
   ·rw[results_cell_tmp rfl]
    simp[asAddr,Result.andThen,Act.put,Ig (Fq.out.row _) iG.out.size]
 ·have aP:Hid (rs=(jA,eH p n)):=hZ (by rw[HS.out,if_neg h0])
  obtain⟨er,her⟩:∃er,er=eH p n:=⟨_,rfl⟩;rw[<-her] at hme aP h0;have hne:(er !=0)=true:=by rw[bne_iff_ne];exact h0
  clear HS HMZ her HDG;go_enter Tryz.func116,Tryz.ntmps116;go_wp2_with(first
   |(with_reducible refine Mm ?_)
   |(with_reducible refine aDi ?_)
   |((with_reducible refine uR w.heap.size ?_ HX0.out iC.out ?_);rfl)
   |((with_reducible refine Ej (w.heap.size+1) zP ?_ ?_ X1.out dU dU Ir ?_);rfl;rfl)
   |(go_at_call 156
     refine hme.mono ?_;rintro e w1 ⟨rfl,hb1⟩;have K1:=hZ (HW0.out.trans (hb1.mono HW0.out.size));have X1:=hZ (zC.out.below hb1);clear hb1))
  try simp only[Exit.inBlock,Exit.then]
  refine bodyPost_ret (v:=.tuple #[.agg zP,.int .i64 er]) ?_ rfl ?_;rotate_left
  ·rw[aP.out]
   exact Rl X1.out (Yo _) Iu K1.out (by omega) (P7 _ _) (Vx _ _ _)
  ·rw[results_cell_tmp rfl]
   simp[asAddr,Result.andThen,Act.put,Ig (X1.out.row _) dU]
end Go.Proofs.YtoogfmbojlpjaaaGreat
