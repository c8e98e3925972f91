/- Lemmas. -/
import Derived.Test.YtoogfmbojlpjaaaGreatQ0
import Derived.ProofKit
import Derived.OpenShut
import Derived.ShutString
import Derived.ChangeOld
import Derived.Lib.SmallJoins
import Derived.Test.YtoogfmbojlpjaaaGreatQA
set_option maxRecDepth 100000
set_option maxHeartbeats 32000000
set_option linter.unusedVariables false
set_option linter.unusedSimpArgs false
namespace Go.Proofs.YtoogfmbojlpjaaaGreat
open Go.ChangeShapes Go.WideShapes Go.ChangeAt Go.RowKit Go.Joins
def eG (x:Int):Prop:= -9223372036854775808<=x/\x<=9223372036854775807
theorem kG {x:Int} (h:(Lit.int .i64 x).wf=true):eG x:=by
 simp[Lit.wf,IntKind.min,IntKind.max,IntKind.signed,IntKind.bits] at h;exact⟨by omega,by omega⟩
def Row (k:IntKind) (w:World) (B:Nat) (A:Option Addr) (n:Nat) (zs:List Int):Prop:=
 zs.length=n/\n<=maxLen/\(0<n->∃b off,A=some ⟨b,off,none⟩/\b<B/\∀i,i<n->w.cell? ⟨b,off+i,none⟩=some (.int k (zs.getD i 0)))
theorem Row.below {k:IntKind} {w w':World} {B:Nat} {A:Option Addr} {n:Nat} {zs:List Int} (h:Row k w B A n zs) (hb:Below B w w'):Row k w' B A n zs:=
 ⟨h.1,h.2.1,λhn=>by
   obtain⟨b,off,e,hB,hc⟩:=h.2.2 hn;exact⟨b,off,e,hB,λi hi=>(hb.cell (p:=⟨b,off+i,none⟩) hB).trans (hc i hi)⟩⟩
theorem Row.at_ {k:IntKind} {w:World} {B:Nat} {A:Option Addr} {n i:Nat} {zs:List Int} (h:Row k w B A n zs) (hi:i<n):
 ∃b off,A=some ⟨b,off,none⟩/\b<B/\w.cell? ⟨b,off+i,none⟩=some (.int k (zs.getD i 0)):=by
 obtain⟨b,off,e,hB,hc⟩:=h.2.2 (by omega);exact⟨b,off,e,hB,hc i hi⟩
theorem lt_of_cell {w:World} {b o:Nat} {v:Value} (h:w.cell? ⟨b,o,none⟩=some v):b<w.heap.size:=by
 rcases Nat.lt_or_ge b w.heap.size with hlt|hge
 ·exact hlt
 ·unfold World.cell? at h
  rw[Array.getElem?_eq_none hge] at h;simp at h
end Go.Proofs.YtoogfmbojlpjaaaGreat
namespace Go.Proofs.YtoogfmbojlpjaaaGreat
open Go.RowKit
def Ef (zs:List Int) (tag:Int):Option Nat:=zs.findIdx? (λz=>z !=tag)
def oP (tg:Bool) (way:Int) (zs:List Int) (tag:Int):Int:=if tg=false\/way=4 then 0 else if(Ef zs tag).isSome then 4 else 0
def sF (tg:Bool) (way:Int) (zs:List Int) (tag:Int):Int:=if tg=false\/way=4 then 0 else((Ef zs tag).getD 0:Nat)
def Jz (zs:List Int) (tag:Int) (k:Nat):Prop:=∀i,i<k->zs.getD i 0=tag
theorem U7 {zs:List Int} {i:Nat} (h:i<zs.length):zs.getD i 0=zs[i]:=by simp[List.getD,List.getElem?_eq_getElem h]
theorem aGq {zs:List Int} {tag:Int} {k:Nat} (h:Jz zs tag k) (hk:k<zs.length) (hn:zs.getD k 0≠tag):Ef zs tag=some k:=by
 unfold Ef;rw[List.findIdx?_eq_some_iff_getElem];refine⟨hk,?_,λj hj=> ?_⟩
 ·rw[U7 hk] at hn;simpa using hn
 ·have:=h j hj;rw[U7 (by omega)] at this;simp[this]
theorem aDy {zs:List Int} {tag:Int} (h:Jz zs tag zs.length):Ef zs tag=none:=by
 unfold Ef;rw[List.findIdx?_eq_none_iff];intro x hx;obtain⟨i,hi,rfl⟩:=List.getElem_of_mem hx;have:=h i hi;rw[U7 hi] at this;simp[this]
theorem Jz.next {zs:List Int} {tag:Int} {k:Nat} (h:Jz zs tag k) (hn:zs.getD k 0=tag):Jz zs tag (k+1):=by
 intro i hi;rcases Nat.lt_or_ge i k with hlt|hge
 ·exact h i hlt
 ·rw[show i=k by omega];exact hn
theorem aIi (r key:Int) (tg sd:Bool) (way:Int) (A:Option Addr) (n c:Nat) (zs:List Int) (tag:Int) (w:World) (B:Nat) (hz:Row .i64 w B A n zs) (hBw:B<=w.heap.size):
 Calls Tryz.prog 132 #[.agg #[.int .i64 r,.int .i64 key,.bool tg,.bool sd],.int .i64 way,.slice A n c,.int .i64 tag] w λe w'=>e=.returned (.tuple #[.int .i64 (oP tg way zs tag),.int .i64 (sF tg way zs tag)])/\Below w.heap.size w w':=by
 have hm:=hz.2.1;have hl:=hz.1;unfold maxLen at hm;by_cases hw:way=4
 ·subst hw
  cases tg
  all_goals
   have HL:=hZ hl;clear hl;go_enter Tryz.func132,Tryz.ntmps132;go_wp2
   all_goals go_ret2
   all_goals exact⟨jQ (by simp[oP]) (by simp[sF]),by go_grown⟩
 ·have hw4:(way==4)=false:=by simp[hw]
  have nJ:(way !=4)=true:=by simp[hw]
  have HL:=hZ hl;clear hl;cases tg
  ·go_enter Tryz.func132,Tryz.ntmps132
   go_wp2
   all_goals go_ret2
   all_goals exact⟨jQ (by simp[oP]) (by simp[sF]),by go_grown⟩
  ·have HZ:=hZ hz
   clear hz;go_enter Tryz.func132,Tryz.ntmps132;go_wp2
   go_loop [21] (λi=>∃k:Nat,k<=n/\i=.int .i64 k/\Jz zs tag k) (λi=>n - (intOf i).toNat)
   case atStart=>exact⟨0,by omega,rfl,λi hi=>by omega⟩
   case round=>
    obtain⟨k,hk,rfl,hall⟩:=hrel;have HA:=hZ hall;clear hall;by_cases hlt:k<n
    ·obtain⟨b,off,rfl,hB',hc⟩:=HZ.out.at_ hlt
     have hB:b<w.heap.size:=by omega
     have HLT:=hZ (show k<zs.length by rw[HL.out];exact hlt);by_cases ht:zs.getD k 0=tag
     ·have ht':(zs[k]?.getD 0 !=tag)=false:=by simpa using ht
      have HT:=hZ (HA.out.next ht);clear ht HA;go_wp2
      go_round
      case rel=>exact⟨k+1,by omega,by go_num,HT.out⟩
      case measure=>simp[intOf];omega
     ·have ht':(zs[k]?.getD 0 !=tag)=true:=by simpa using ht
      have HT:=hZ (aGq HA.out HLT.out ht);have hw':=hw;clear ht HA hw;go_wp2
      go_ret2
      exact⟨jQ (by simp[oP,hw',HT.out]) (by simp[sF,hw',HT.out]),by go_grown⟩
    ·have hkn:k=zs.length:=by rw[HL.out];omega
     have HT:=hZ (aDy (hkn▸HA.out));have hw':=hw;clear hkn HA hw;go_wp2
     go_ret2
     exact⟨jQ (by simp[oP,hw',HT.out]) (by simp[sF,hw',HT.out]),by go_grown⟩
end Go.Proofs.YtoogfmbojlpjaaaGreat
