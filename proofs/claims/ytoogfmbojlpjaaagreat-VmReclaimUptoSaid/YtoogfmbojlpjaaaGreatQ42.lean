/- Lemmas. -/
import Derived.Test.YtoogfmbojlpjaaaGreatQ28
import Derived.Test.YtoogfmbojlpjaaaGreatQ36
import Derived.Test.YtoogfmbojlpjaaaGreatQ32
import Derived.Test.YtoogfmbojlpjaaaGreatQ12
import Derived.Test.YtoogfmbojlpjaaaGreatQA
set_option maxRecDepth 100000
set_option maxHeartbeats 32000000
set_option linter.unusedVariables false
set_option linter.unusedSimpArgs false
namespace Go.Proofs.YtoogfmbojlpjaaaGreat
open Go.ChangeShapes Go.WideShapes Go.ChangeAt Go.RowKit Go.Joins Go.Sort
theorem aDA (tg:Bool) (way:Int) (zs:List Int) (tag:Int):0<=sF tg way zs tag/\(sF tg way zs tag=0\/sF tg way zs tag<zs.length):=by
 unfold sF;split
 ·omega
 ·refine⟨by omega,?_⟩
  unfold Ef;cases h:zs.findIdx? (λz=>z !=tag) with
  |none=>left;rfl
  |some k=>
   right;have:=(List.findIdx?_eq_some_iff_findIdx_eq.1 h).1;simp;omega
theorem infoAt:(Tryz.prog.info? 97).map (·.size)=some 4:=by kernel_rfl
theorem kY:(Tryz.prog.info? 26).map (·.size)=some 12:=by kernel_rfl
def aZ (o:aL):Array Value:= #[.int .i64 o.kind,.int .i64 o.proc,.int .i64 o.page,.int .i64 o.count,.int .i64 o.eZ,.int .i64 o.key,.bool o.tagged,.int .i64 o.draw,.int .i64 o.addr,.int .i64 o.size,.int .i64 o.value,.int .i64 o.tag]
theorem aBx (e:Int):∀(f:Nat) (a:Int),(kP e f a).length<=f
 |0,_=>by simp[kP]
 |f+1,a=>by
  unfold kP;split
  ·have:=aBx e f (min e ((a/64+1)*64));simp;omega
  ·simp
def H6 (e a:Int) (f:Nat):Prop:=e<=a\/65 -a/64<=f
theorem aFf {ts:List mP} {ad sz:Int} {j f m:Nat} (h0:0<=ad) (h2:ad+sz<=4096) (hj:j<ts.length) (h:ts.drop j=kP (ad+sz) f (ad+m)) (hf:H6 (ad+sz) (ad+m) f):
 ∃pn ki f2:Nat,(pn:Int)*64+ki=ad+m/\ki<64/\ts[j]? =some ⟨pn,ki,min (ad+sz) ((pn+1)*64) -pn*64⟩/\ts.drop (j+1)=kP (ad+sz) f2 (min (ad+sz) ((pn+1)*64))/\H6 (ad+sz) (min (ad+sz) ((pn+1)*64)) f2:=by
 rw[List.drop_eq_getElem_cons hj] at h;cases f with
 |zero=>simp[kP] at h;omega
 |succ f=>
  unfold kP at h;by_cases hl:ad+m<ad+sz
  ·rw[if_pos hl] at h
   injection h with h1 h3;obtain⟨pn,hpn⟩:∃pn:Nat,(pn:Int)=(ad+m)/64:=⟨((ad+m)/64).toNat,by omega⟩;obtain⟨ki,hki⟩:∃ki:Nat,(ki:Int)=ad+m -pn*64:=⟨(ad+m -pn*64).toNat,by omega⟩;rw[<-hpn] at h1 h3;refine⟨pn,ki,f,by omega,by omega,?_,h3,?_⟩
   ·rw[List.getElem?_eq_getElem hj,h1,hki]
   ·unfold H6 at hf⊢;omega
  ·rw[if_neg hl] at h;cases h
end Go.Proofs.YtoogfmbojlpjaaaGreat
namespace Go.Proofs.YtoogfmbojlpjaaaGreat
open Go.ChangeShapes Go.WideShapes Go.ChangeAt Go.RowKit Go.Joins
section
section
variable {H:Type} {enc:TypeId×Value->H} {w:World} {base:Nat} {held:Bool}
theorem aHs {fuel:Nat} {cs:List Value} {x:DataW H×List MemPlace} (h:DataW.trod enc Tryz.prog w base (λ_=>true) held fuel 26 cs=some x) (hl:cs.length=12):∃a:aL,cs=fO a/\a.fits:=by
 match cs,hl with
 | [v0,v1,v2,v3,v4,v5,v6,v7,v8,v9,v10,v11],_=>
   obtain⟨ys,n,_,_,_,hyl,hf⟩:=DataW.trod_struct Tryz.underlying26 h
   match ys,hyl with
   | [y0,y1,y2,y3,y4,y5,y6,y7,y8,y9,y10,y11],_=>
     have f0:=hf 0 _ rfl;have f1:=hf 1 _ rfl;have f2:=hf 2 _ rfl;have f3:=hf 3 _ rfl;have f4:=hf 4 _ rfl;have f5:=hf 5 _ rfl;have f6:=hf 6 _ rfl;have f7:=hf 7 _ rfl;have f8:=hf 8 _ rfl;have f9:=hf 9 _ rfl;have f10:=hf 10 _ rfl;have f11:=hf 11 _ rfl;simp only[List.getElem?_cons_zero] at f0;simp only[List.getElem?_cons_succ,List.getElem?_cons_zero] at f1 f2 f3 f4 f5 f6 f7 f8 f9 f10 f11;obtain⟨a0,e0,_,w0⟩:=DataW.trod_int Tryz.underlying3 f0;obtain⟨a1,e1,_,w1⟩:=DataW.trod_int Tryz.underlying3 f1;obtain⟨a2,e2,_,w2⟩:=DataW.trod_int Tryz.underlying3 f2;obtain⟨a3,e3,_,w3⟩:=DataW.trod_int Tryz.underlying3 f3;obtain⟨a4,e4,_,w4⟩:=DataW.trod_int Tryz.underlying3 f4;obtain⟨a5,e5,_,w5⟩:=DataW.trod_int Tryz.underlying3 f5;obtain⟨a6,e6,_⟩:=DataW.trod_bool Tryz.underlying4 f6;obtain⟨a7,e7,_,w7⟩:=DataW.trod_int Tryz.underlying3 f7;obtain⟨a8,e8,_,w8⟩:=DataW.trod_int Tryz.underlying3 f8;obtain⟨a9,e9,_,w9⟩:=DataW.trod_int Tryz.underlying3 f9;obtain⟨a10,e10,_,Ee⟩:=DataW.trod_int Tryz.underlying3 f10;obtain⟨a11,e11,_,w11⟩:=DataW.trod_int Tryz.underlying3 f11;cases e0;cases e1;cases e2;cases e3;cases e4;cases e5;cases e6;cases e7;cases e8;cases e9;cases e10;cases e11;exact⟨⟨a0,a1,a2,a3,a4,a5,a6,a7,a8,a9,a10,a11⟩,rfl,kG w0,kG w1,kG w2,kG w3,kG w4,kG w5,kG w7,kG w8,kG w9,kG Ee,kG w11⟩
theorem aCP {A:Option Addr} {n c:Nat} {d:DataW H} {p:List MemPlace} (h:DataW.Trod enc Tryz.prog w base (λ_=>true) held 22 (.slice A n c) d p):∃xs,Rw fO 12 w w.heap.size A n xs/\(∀x∈xs,x.fits)/\n<=c/\c<=maxLen:=
 Yz fO aL.fits Tryz.underlying22 (by kernel_rfl) (by decide) (λ_ _ _ h hl=>aHs h hl) uZ h
end
end
end Go.Proofs.YtoogfmbojlpjaaaGreat
