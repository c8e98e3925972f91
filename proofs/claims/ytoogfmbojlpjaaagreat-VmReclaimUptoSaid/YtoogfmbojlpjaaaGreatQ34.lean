/- Lemmas. -/
import Derived.Test.YtoogfmbojlpjaaaGreatQ24
import Derived.Deep.LoopGhost
import Derived.Test.YtoogfmbojlpjaaaGreatQ5
import Derived.Test.YtoogfmbojlpjaaaGreatQA
set_option maxRecDepth 100000
set_option maxHeartbeats 32000000
set_option linter.unusedVariables false
set_option linter.unusedSimpArgs false
namespace Go.Proofs.YtoogfmbojlpjaaaGreat
open Go.RowKit Go.Sort
theorem aLi (A1 A2:Option Addr) (n c1 c2 h:Nat) (may used:List Bool) (w:World) (B:Nat) (hm:Rw fB 1 w B A1 n may) (hu:Rw fB 1 w B A2 n used) (hB:B<=w.heap.size) (hh:h<n) (hf:Hid (decide (firstT may<n)=true)) (m1:n<=140737488355328):
 Calls Tryz.prog 62 #[.int .i64 h,.slice A1 n c1,.slice A2 n c2] w λe w'=>∃A' c',e=.returned (.tuple #[.int .i64 (vY may used h n:Nat),.int .i64 ((vY may used h n+1)%n:Nat),.slice A' n c',.int .i64 0])/\Ow fB 1 4 w' w.heap.size A' n c' (aB2 may used h n)/\Below w.heap.size w w':=by
 have Mi:=hm.1;have Wx:=hu.1;have aFE:Cn may h n<n:=aEs hh Mi (by have:=hf.out;simp at this;omega);obtain⟨b,off,rfl,hb1⟩:=aBO hm (by omega);have HML:=hZ Mi;have HUL:=hZ Wx;have HM:=hZ hm;have HU:=hZ hu;have H1:=hZ (λ(k:Nat) (hk:k<La may used h n) hm=>aKR (may:=may) (used:=used) hh aFE hk hm);have H2:=hZ (aBE (may:=may) (used:=used) hh aFE);have H0:=hZ aFE;clear hm hu Mi Wx aFE;go_enter Tryz.func62,Tryz.ntmps62;go_wp2_with fail
 refine(Qd _ n c1 may _ B HM.out m1).mono ?_;rintro e w1 ⟨rfl,hw1⟩;rw[hw1,hf.out];clear hw1;go_wp2_with fail
 refine(aFR A2 n c2 used _ B HU.out hB m1).mono ?_;rintro e w1 ⟨A',c',rfl,ho,hbw⟩;have hz1:=hbw.size;obtain⟨g,aPU,e9,hg,_,_⟩:=ho.2.2.2 (by omega);subst e9;have HO:=hZ ho;clear ho;go_wp2
 go_loopg [12] (La may used h n) (λr a wr=>∃k,k+r=La may used h n/\a=.int .i64 (gU h n k:Nat)/\Ow fB 1 4 wr w.heap.size (some ⟨g,0,none⟩) n c' (pK may used h n k)/\Below w.heap.size w wr)
 case atStart=>exact⟨0,by omega,by rw[aOl hh],HO.out,hbw⟩
 case round=>
  obtain⟨k,hk,rfl,how,hbr⟩:=hrel;have hl:gU h n k<n:=aKj k (by omega);have hcm:wr.cell? ⟨b,off+gU h n k,none⟩=some (.bool (mb may (gU h n k))):=aBP (HM.out.below (hbr.mono hB)) hl;have hro:=how.row;have hcu:wr.cell? ⟨g,0+gU h n k,none⟩=some (.bool (mb (pK may used h n k) (gU h n k))):=aBP hro hl;rw[Nat.zero_add] at hcu;have hfz:wr.frozen? ⟨g,gU h n k,none⟩=false:=by
   obtain⟨g',cur,e,_,hh',_⟩:=how.2.2.2 (by omega);injection e with e;injection e with e;subst e;exact gQ hh' _
  have HW:=hZ how;have HK:=hZ hk;have hr9:Hid (gU h n (k+1)=(gU h n k+1)%n):=hZ aK5;have hsu:=aAp (may:=may) (used:=used) (h:=h) (n:=n) k;have HS:=hZ hsu;have hno:=H1.out k;have hvi:gk=0->gU h n k=vY may used h n/\pK may used h n k=aB2 may used h n:=λe=>by
   have:k=La may used h n:=by omega
   rw[this];exact⟨rfl,rfl⟩
  have HV:=hZ hvi;have HN:Hid (0<gk->mb may (gU h n k)=true->mb (pK may used h n k) (gU h n k)=true):=hZ (λh1 h2=>hno (by omega) h2);clear how hk hsu hno hvi hro;generalize hre:gU h n k=r at*;have Cf:=hZ hre;clear hre;have hrm:((r:Int)+1).tmod (n:Int)=(((r+1)%n:Nat):Int):=by rw[Int.tmod_eq_emod_of_nonneg (by omega)];rfl
  have HRM:=hZ hrm;rcases Nat.eq_zero_or_pos gk with hg0|hg0
  ·obtain⟨v1,v2⟩:=HV.out hg0
   have hmv:=H2.out.1;have huv:=H2.out.2;rw[<-v1] at hmv huv;rw[<-v2] at huv;rw[hmv] at hcm;rw[huv] at hcu;have zD:=hZ v1;have iG:=hZ v2;clear hmv huv v1 v2;go_wp2
   go_quiet (fail)
   go_wp2;refine bodyPost_ret (v:=.tuple #[.int .i64 (r:Int),.int .i64 (((r:Int)+1)%(n:Int)),.slice (some ⟨g,0,none⟩) n c',.int .i64 0]) (by simp[results,Tryz.results62,go_sem]) rfl ⟨some ⟨g,0,none⟩,c',?_,?_,?_⟩
   ·rw[<-zD.out];simp
   ·rw[<-iG.out];exact HW.out.below (below_drewN _ _ _) (nR _)
   ·exact hbr.trans (below_drewN _ _ _)
  ·by_cases hmr:mb may r=true
   ·have hur:=HN.out hg0 hmr
    rw[hmr] at hcm;rw[hur] at hcu;rw[if_pos hmr] at HS;have Cx:(pK may used h n k)[r]? =some true:=by
     unfold mb at hur;rcases hq:(pK may used h n k)[r]? with _|b9
     ·simp[List.getD,hq] at hur
     ·simp[List.getD,hq] at hur;rw[hur]
    have Td:=hZ Cx;clear hmr hur Cx;go_wp2
    go_roundg (gk -1)
    case measure=>omega
    case rel=>exact⟨k+1,by have:=HK.out;omega,by rw[hr9.out];simp,by rw[HS.out];exact Ow.set1 (y:=false) (fv:=Value.bool) HW.out Td.out,hbr.setCell (by assumption) _⟩
   ·rw[Bool.not_eq_true] at hmr
    rw[hmr] at hcm;rw[if_neg (by rw[hmr];decide)] at HS;clear hmr;go_wp2
    go_roundg (gk -1)
    case measure=>omega
    case rel=>exact⟨k+1,by have:=HK.out;omega,by rw[hr9.out];simp,by rw[HS.out];exact HW.out,hbr⟩
theorem aB7 (A1 A2:Option Addr) (n1 c1 n2 c2:Nat) (may used:List Bool) (hand:Int) (w:World) (B:Nat) (hm:Rw fB 1 w B A1 n1 may) (hu:Rw fB 1 w B A2 n2 used) (hB:B<=w.heap.size) (m1:n1<=140737488355328) (m2:n2<=140737488355328):
 Calls Tryz.prog 62 #[.int .i64 hand,.slice A1 n1 c1,.slice A2 n2 c2] w (aKs 4 hand may used w):=by
 have l1:=hm.1;have l2:=hu.1;by_cases h1:n1=n2
 ·subst h1
  by_cases h2:hand<0\/(n1:Int)<=hand
  ·have hE:jL hand may used=2:=by unfold jL;rw[if_neg (by omega),if_pos (by omega)]
   exact(aLg A1 A2 n1 c1 c2 hand w (by omega) m1).mono λe w' h=>Nv hE (by decide) h
  ·obtain⟨h,rfl⟩:=Int.eq_ofNat_of_zero_le (show 0<=hand by omega)
   by_cases h3:firstT may<n1
   ·have hE:jL h may used=0:=Za.2 ⟨by omega,by omega,by omega,by omega⟩
    refine(aLi A1 A2 n1 c1 c2 h may used w B hm hu hB (by omega) (hZ (by simpa using h3)) m1).mono ?_;rintro e w' ⟨A',c',rfl,ho,hb⟩;refine⟨A',n1,c',?_,?_,hb⟩
    ·unfold Bc nS;rw[if_pos hE,if_pos hE,hE,Int.toNat_natCast,l1]
    ·unfold yH;rw[if_pos hE,Int.toNat_natCast,l1];exact ho
   ·have hE:jL h may used=3:=by unfold jL;rw[if_neg (by omega),if_neg (by omega),if_neg (by omega)]
    exact(aLf A1 A2 n1 c1 c2 may h w B hm (by omega) (by omega) (hZ (by simpa using h3)) m1).mono λe w' h=>Nv hE (by decide) h
 ·have hE:jL hand may used=1:=by unfold jL;rw[if_pos (by omega)]
  exact(aLh A1 A2 n1 c1 n2 c2 hand w h1 m1 m2).mono λe w' h=>Nv hE (by decide) h
end Go.Proofs.YtoogfmbojlpjaaaGreat
