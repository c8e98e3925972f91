/- Lemmas. -/
import Derived.Test.YtoogfmbojlpjaaaGreatQ21
import Derived.Test.YtoogfmbojlpjaaaGreatQ2
import Derived.Test.YtoogfmbojlpjaaaGreatQ20
import Derived.Laws.MakeOwn
import Derived.Test.YtoogfmbojlpjaaaGreatQ10
import Derived.Test.YtoogfmbojlpjaaaGreatQA
set_option maxRecDepth 100000
set_option maxHeartbeats 32000000
set_option linter.unusedVariables false
set_option linter.unusedSimpArgs false
namespace Go.Proofs.YtoogfmbojlpjaaaGreat
open Go.RowKit Go.Sort
theorem aIw (w:World):Calls Tryz.prog 32 #[] w λe w'=>e=.returned (.slice (some ⟨w.heap.size,0,none⟩) 4096 4096)/\w'=w.alloc (.cells (lM 4096) 5):=by
 have hm:∀w,(Instr.makeSlice 58 (.int .i64 4096) (.int .i64 4096)).run Tryz.prog w=.ok (.slice (some ⟨w.heap.size,0,none⟩) 4096 4096) (w.alloc (.cells (lM 4096) 5)):=λw=>aEn 4096 (by omega) w;go_enter Tryz.func32,Tryz.ntmps32;go_wp2;go_ret;exact⟨rfl,rfl⟩
end Go.Proofs.YtoogfmbojlpjaaaGreat
namespace Go.Proofs.YtoogfmbojlpjaaaGreat
open Go.RowKit
def lZ:List Int->Nat->Nat->List Int
 |zs,_,0=>zs
 |zs,a,n+1=>lZ (zs.set a 0) (a+1) n
theorem Un {T:TypeId} {base g len c:Nat} :∀(n:Nat) (zs:List Int) (a:Nat) (w:World),Own .u8 T w base (some ⟨g,0,none⟩) len c zs->a+n<=len->
 Own .u8 T (w.setCells g a (List.replicate n (.int .u8 0))) base (some ⟨g,0,none⟩) len c (lZ zs a n)
 |0,zs,a,w,h,_=>h
 |n+1,zs,a,w,h,hl=>Un n (zs.set a 0) (a+1) _ (h.wT (i:=a) (x:=0) (by omega)) (by omega)
def wM (zs:List Int) (root page leaf:Int):Int:=if page<0\/64<=page then 2 else Ed zs root (page/8) 1 leaf
def mU (zs:List Int) (root page leaf:Int):List Int:=if page<0\/64<=page then zs else Nk zs root (page/8) 1 leaf
theorem aCE (A:Option Addr) (len c:Nat) (zs:List Int) (root page leaf:Int) (w:World) (base:Nat) (ho:Own .u8 5 w base A len c zs) (hB:base<=w.heap.size) (hn:len<=140737488355328):
 Calls Tryz.prog 125 #[.slice A len c,.int .i64 root,.int .i64 page,.int .i64 leaf] w (WrP 5 w base A len c (wM zs root page leaf) (mU zs root page leaf)):=by
 have HO:=hZ ho;by_cases h:page<0\/64<=page
 ·have e1:wM zs root page leaf=2:=by unfold wM;rw[if_pos h]
  have e2:mU zs root page leaf=zs:=by unfold mU;rw[if_pos h]
  rw[e1,e2];clear e1 e2 ho;rcases h with h|h
  all_goals
   go_enter Tryz.func125,Tryz.ntmps125;go_wp2
   all_goals go_ret
   all_goals exact⟨rfl,HO.out,bD.refl _ _⟩
 ·have e1:wM zs root page leaf=Ed zs root (page/8) 1 leaf:=by unfold wM;rw[if_neg h]
  have e2:mU zs root page leaf=Nk zs root (page/8) 1 leaf:=by unfold mU;rw[if_neg h]
  rw[e1,e2];have p0:0<=page:=by omega
  have p1:page<64:=by omega
  have HW:=hZ (aD0 A len c zs root (page/8) 1 leaf w base ho hB hn (by omega) (by omega));clear e1 e2 ho h;go_enter Tryz.func125,Tryz.ntmps125;go_wp2_with fail
  refine HW.out.mono ?_;rintro e w1 ⟨rfl,ho1,hb1⟩;have HQ:=hZ ho1;clear ho1;go_wp2;go_ret;exact⟨rfl,HQ.out,hb1⟩
def Aq:List Value:=List.replicate 64 (.int .u8 0)
theorem aGa (w:World):(zeroValue 5).run Tryz.prog w=.ok (.int .u8 0) w:=by kernel_rfl
def Lp (len:Nat) (f:Int):Prop:=0<=f/\f<64/\64*f+64<=len
instance (len:Nat) (f:Int):Decidable (Lp len f):=by unfold Lp;infer_instance
def tX (zs:List Int) (f:Int):List Int:=if Lp zs.length f then lZ zs (64*f).toNat 64 else zs
theorem aHN (A:Option Addr) (len c:Nat) (zs:List Int) (f:Int) (w:World) (base:Nat) (ho:Own .u8 5 w base A len c zs) (hn:len<=140737488355328):
 Calls Tryz.prog 61 #[.slice A len c,.int .i64 f] w λe w'=>e=.returned (.tuple #[])/\Own .u8 5 w' base A len c (tX zs f)/\bD (kN A) w w':=by
 have hl:=ho.1;have hcap:=ho.2.1;have hcm:=ho.2.2.1;by_cases h:Lp zs.length f
 ·have e:tX zs f=lZ zs (64*f).toNat 64:=by unfold tX;rw[if_pos h]
  rw[e];unfold Lp at h;obtain⟨h0,h1,h2⟩:=h;obtain⟨p,hp⟩:∃p:Nat,f*64=p:=⟨(f*64).toNat,by omega⟩;have ep:(64*f).toNat=p:=by omega
  rw[ep];have hpl:p+64<=len:=by omega
  obtain⟨g,cur,rfl,hg,hh,hcc⟩:=ho.2.2.2 (by omega);have HF:Hid (fD f=p):=hZ (by unfold fD;rw[if_neg (by omega)];exact hp);have aNh:∀ty cc,(Builtin.clear_ #[58] ty #[.slice (some ⟨g,p,none⟩) 64 cc]).run Tryz.prog w=.ok (.tuple #[]) (w.setCells g p Aq):=λty cc=>
   Lib.run_clear_slice (P:=Tryz.prog) w 58 5 ty (.int .u8 0) Tryz.underlying58 aGa rfl rfl g p 64 cc (by decide)
    (λj hj=>by rw[dW hh,hcc (p+j) (by omega)];rfl) (λj hj=>gQ hh _)
  have HO:=hZ ho;have hp0:(p:Int)+64<=(len:Int):=by omega
  have hcap2:len<=c:=hcap;clear e ho h0 h1 h2 hl hh hcc ep hp;go_enter Tryz.func61,Tryz.ntmps61;go_wp2_with(go_at_call 106;refine(kI f _).mono ?_;rintro e' w' ⟨rfl,hw⟩;rw[hw,HF.out];clear hw)
  go_end0
  exact⟨rfl,Un 64 zs p w HO.out hpl,xL (show kN (some ⟨g,0,none⟩) g from rfl) _ _ _⟩
 ·have e:tX zs f=zs:=by unfold tX;rw[if_neg h]
  rw[e];have HO:=hZ ho;unfold Lp at h;by_cases hf:f<0\/64<=f
  ·have HF:Hid (fD f= -1):=hZ (by unfold fD;rw[if_pos (by omega)])
   clear e ho h hl;go_enter Tryz.func61,Tryz.ntmps61;go_wp2_with(go_at_call 106;refine(kI f _).mono ?_;rintro e' w' ⟨rfl,hw⟩;rw[hw,HF.out];clear hw)
   go_end0
   exact⟨rfl,HO.out,bD.refl _ _⟩
  ·have HF:Hid (fD f=f*64):=hZ (by unfold fD;rw[if_neg (by omega)])
   have f0:0<=f:=by omega
   have f1:f<64:=by omega
   have f2:(len:Int)<f*64+64:=by omega
   have f3:0<=f*64:=by omega
   clear e ho h hl hf;go_enter Tryz.func61,Tryz.ntmps61;go_wp2_with(go_at_call 106;refine(kI f _).mono ?_;rintro e' w' ⟨rfl,hw⟩;rw[hw,HF.out];clear hw)
   go_end0
   exact⟨rfl,HO.out,bD.refl _ _⟩
end Go.Proofs.YtoogfmbojlpjaaaGreat
