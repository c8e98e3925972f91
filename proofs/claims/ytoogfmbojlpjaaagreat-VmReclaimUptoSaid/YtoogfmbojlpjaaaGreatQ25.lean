/- Lemmas. -/
import Derived.Test.YtoogfmbojlpjaaaGreatQ2
import Derived.Test.YtoogfmbojlpjaaaGreatQ20
import Derived.RegionTactic
import Derived.ChangeAlike
import Derived.Test.YtoogfmbojlpjaaaGreatQA
set_option maxRecDepth 100000
set_option maxHeartbeats 32000000
set_option linter.unusedVariables false
set_option linter.unusedSimpArgs false
namespace Go.Proofs.YtoogfmbojlpjaaaGreat
open Go.RowKit
def yM (b g tag:Int):Int:=if g%2=0 then b -b%16+tag else b%16+16*tag
theorem aMI:∀x:Fin 256,(x.val&&& 240)=x.val -x.val%16:=by decide+kernel
theorem aN2:∀x:Fin 256,(x.val&&& 15)=x.val%16:=by decide+kernel
theorem aLs {x t:Int} (h0:0<=x) (h1:x<256) (t0:0<=t) (t1:t<16):bits .or .u8 (bits .andNot .u8 x 15) (bits .and .i64 t 15%256)=x -x%16+t:=by
 obtain⟨x,rfl⟩:=Int.eq_ofNat_of_zero_le h0;obtain⟨t,rfl⟩:=Int.eq_ofNat_of_zero_le t0;have e1:bits .andNot .u8 (x:Int) 15=((x&&& 240:Nat):Int):=by
  rw[u8_andNot _ _ h0 h1 (by decide) (by decide)];rfl
 have e2:x&&& 240=x -x%16:=aMI ⟨x,by omega⟩;rw[e1,aKq,e2,show(t:Int)%16%256=(t:Int) by omega,u8_or_nat _ _ (by omega) (by omega),nat_join 4 (x -x%16) t (by omega) (by omega)];omega
theorem aLF {x t:Int} (h0:0<=x) (h1:x<256) (t0:0<=t) (t1:t<16):bits .or .u8 (bits .andNot .u8 x 240) (bits .and .i64 t 15%256*16%256)=x%16+16*t:=by
 obtain⟨x,rfl⟩:=Int.eq_ofNat_of_zero_le h0;obtain⟨t,rfl⟩:=Int.eq_ofNat_of_zero_le t0;have e1:bits .andNot .u8 (x:Int) 240=((x&&& 15:Nat):Int):=by
  rw[u8_andNot _ _ h0 h1 (by decide) (by decide)];rfl
 have e2:x&&& 15=x%16:=aN2 ⟨x,by omega⟩;have e3:(x%16)|||(16*t)=x%16+16*t:=by
  rw[Nat.or_comm,nat_join 4 (16*t) (x%16) (by omega) (by omega)];omega
 rw[e1,aKq,e2,show(t:Int)%16%256*16%256=((16*t:Nat):Int) by omega,u8_or_nat _ _ (by omega) (by omega),e3];omega
theorem Vy (A:Option Addr) (n c:Nat) (zs:List Int) (g tag:Int) (w:World) (base:Nat) (ho:Own .u8 5 w base A n c zs) (hb:Bytes zs) (h0:0<=g) (h1:g<2*(n:Int)) (t0:0<=tag) (t1:tag<16) (hn:n<=140737488355328):
 Calls Tryz.prog 88 #[.slice A n c,.int .i64 g,.int .i64 tag] w λe w'=>e=.returned (.tuple #[])/\Own .u8 5 w' base A n c (zs.set (g/2).toNat (yM (zs.getD (g/2).toNat 0) g tag))/\bD (kN A) w w':=by
 obtain⟨k,hk⟩:∃k:Nat,g=2*(k:Int)\/g=2*(k:Int)+1:=⟨(g/2).toNat,by omega⟩;have hkn:k<n:=by omega
 obtain⟨gb,cur,rfl,hg,hh,lX⟩:=ho.2.2.2 (by omega);have hc:w.cell? ⟨gb,k,none⟩=some (.int .u8 (zs[k]?.getD 0)):=by rw[dW hh];exact lX k hkn
 have hf:w.frozen? ⟨gb,k,none⟩=false:=gQ hh k;obtain⟨b0,b1⟩:=hb k;have b2:0<=zs[k]?.getD 0:=b0;have b3:zs[k]?.getD 0<256:=b1;have HO:=hZ ho;have HB:=hZ hb;have HH:=hZ hh;have HC:=hZ lX;clear ho hb hh lX b0 b1;rcases hk with rfl|rfl
 ·have e1:(2*(k:Int))/2=k:=by omega
  have e2:(2*(k:Int))%2=0:=by omega
  go_enter Tryz.func88,Tryz.ntmps88;go_wp2
  go_region
  go_end0
  have hb':=aLs b2 b3 t0 t1;rw[hb',show(2*(k:Int)/2).toNat=k by omega];refine⟨rfl,?_,((bD.refl _ _).cell (.inl (show kN (some ⟨gb,0,none⟩) gb from rfl)) _ _).more ((Below.refl _ _).drew)⟩;unfold yM;rw[if_pos e2];exact HO.out.wT hkn
 ·have e1:(2*(k:Int)+1)/2=k:=by omega
  have e2:(2*(k:Int)+1)%2=1:=by omega
  go_enter Tryz.func88,Tryz.ntmps88;go_wp2
  go_region
  go_end0
  have hb':=aLF b2 b3 t0 t1;rw[hb',show((2*(k:Int)+1)/2).toNat=k by omega];refine⟨rfl,?_,((bD.refl _ _).cell (.inl (show kN (some ⟨gb,0,none⟩) gb from rfl)) _ _).more ((Below.refl _ _).drew)⟩;unfold yM;rw[if_neg (by omega)];exact HO.out.wT hkn
end Go.Proofs.YtoogfmbojlpjaaaGreat
