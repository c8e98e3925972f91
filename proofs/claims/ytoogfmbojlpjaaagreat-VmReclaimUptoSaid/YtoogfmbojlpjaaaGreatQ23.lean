/- Lemmas. -/
import Derived.Test.YtoogfmbojlpjaaaGreatQ3
import Derived.BigQuiet
import Derived.Test.YtoogfmbojlpjaaaGreatQA
set_option maxRecDepth 100000
set_option maxHeartbeats 32000000
set_option linter.unusedVariables false
set_option linter.unusedSimpArgs false
namespace Go.Proofs.YtoogfmbojlpjaaaGreat
open Go.ChangeShapes Go.WideShapes Go.ChangeAt Go.RowKit Go.Joins
def fB (b:Bool):List Value:=[.bool b]
theorem aHC (b:Bool):(fB b).length=1:=rfl
theorem aBP {w:World} {B:Nat} {b off n i:Nat} {xs:List Bool} (h:Rw fB 1 w B (some ⟨b,off,none⟩) n xs) (hi:i<n):w.cell? ⟨b,off+i,none⟩=some (.bool (xs.getD i false)):=by
 obtain⟨b',off',e,_,hc⟩:=h.2.2 (by omega);injection e with e;injection e with e1 e2;subst e1 e2;have hl:i<xs.length:=by rw[h.1];exact hi
 have:=hc i xs[i] (List.getElem?_eq_getElem hl) 0 (.bool xs[i]) rfl;simp only[Nat.mul_one,Nat.add_zero] at this;rw[this];simp[List.getD,hl]
theorem aBO {w:World} {B:Nat} {A:Option Addr} {n:Nat} {xs:List Bool} (h:Rw fB 1 w B A n xs) (hn:0<n):∃b off,A=some ⟨b,off,none⟩/\b<B:=by
 obtain⟨b,off,e,hb,_⟩:=h.2.2 hn;exact⟨b,off,e,hb⟩
theorem aJF:(Tryz.prog.info? 4).map (λi=>(i.zero,i.size,i.bytes))=some (some (.bool false),1,1):=by kernel_rfl
theorem aLS (w:World) (a:Option Addr) (n c n' c':Nat):(binOp .eql 66 (.slice a n c) (.slice none n' c')).run Tryz.prog w=.ok (.bool a.isNone) w:=Lib.run_eql_slice_nil w _ _ a n c n' c' Tryz.underlying66
theorem aFR (A:Option Addr) (n c:Nat) (xs:List Bool) (w:World) (B:Nat) (hz:Rw fB 1 w B A n xs) (_:B<=w.heap.size) (hbig:n<=140737488355328):
 Calls Tryz.prog 108 #[.slice A n c] w λe w'=>∃A' c',e=.returned (.slice A' n c')/\Ow fB 1 4 w' w.heap.size A' n c' xs/\Below w.heap.size w w':=by
 have q:=aLS;cases A with
 |none=>
  have h0:n=0:=by
   rcases Nat.eq_zero_or_pos n with h|h
   ·exact h
   ·obtain⟨_,_,e,_⟩:=hz.2.2 h;cases e
  subst h0;have hl:=hz.1;have HL:=hZ hl;clear hl hz;go_enter Tryz.func108,Tryz.ntmps108;go_wp2;go_ret;exact⟨none,0,rfl,⟨HL.out,nR _,by simp,λh=>absurd h (by omega)⟩,Below.refl _ _⟩
 |some x=>
  obtain⟨i0,hi,hz0,hz1,hz2⟩:=info_parts aJF;obtain⟨hl,hcell⟩:=Rw.cells aHC (by decide) hz;have HC:=hZ hcell;have HL:=hZ hl;clear hcell hl hz;go_enter Tryz.func108,Tryz.ntmps108;go_wp2_with(at_builtin;refine wpList_append_own _ rfl _ _ 66 rfl w.heap.size 4 i0 (.bool false) 1 1 Tryz.underlying66 hi hz0 hz1 hz2 rfl (by decide) _ _ _ rfl (World.ownsRow_made w #[] 0 (nR _) (Nat.zero_le _) rfl) x n c (xs.flatMap fB) rfl ?qc1 ?qc2 ?qc3 ?qc4 ?qc5 ?qc6 ?_)
  case qc1=>exact HL.out
  case qc2=>
   intro j u hj;exact Lib.cell?_alloc_some _ (HC.out j u hj)
  case qc3=>intro u hu;obtain⟨y,_,hy⟩:=List.mem_flatMap.1 hu;simp[fB] at hy;subst hy;rfl
  case qc4=>unfold maxLen;omega
  case qc5=>omega
  case qc6=>simp
  intro v' w1 hown hgrow hnil;go_wp2;go_ret;obtain⟨A',c',rfl,ho⟩:=Ow.Ov aHC (by decide) hown;exact⟨A',c',rfl,ho,((Below.refl _ w).alloc (nR _) _).grown hgrow (by simp) (by intro k hk;simp[Value.ownBlock] at hk;omega)⟩
def firstT:List Bool->Nat
 | []=>0
 |b::l=>if b then 0 else firstT l+1
theorem P5:∀l:List Bool,firstT l<=l.length
 | []=>nR _
 |b::l=>by unfold firstT;split<;>simp[P5 l]
theorem wE:∀(l:List Bool) (i:Nat),i<firstT l->l.getD i false=false
 | [],i,h=>by simp[firstT] at h
 |b::l,i,h=>by
  unfold firstT at h;split at h
  ·omega
  ·rename_i hb
   cases i with
   |zero=>simpa using hb
   |succ i=>simpa using wE l i (by omega)
theorem yQ:∀(l:List Bool),firstT l<l.length->l.getD (firstT l) false=true
 | [],h=>by simp[firstT] at h
 |b::l,h=>by
  unfold firstT at*;split at h
  ·rename_i hb;simp[hb]
  ·rename_i hb
   rw[if_neg hb];have:=yQ l (by simpa using h);simpa using this
def Ph (l:List Bool):Int:=if firstT l<l.length then firstT l else -1
theorem Wv (A:Option Addr) (n c:Nat) (xs:List Bool) (w:World) (B:Nat) (hz:Rw fB 1 w B A n xs) (hbig:n<=140737488355328):
 Calls Tryz.prog 152 #[.slice A n c,.bool true] w λe w'=>e=.returned (.int .i64 (Ph xs))/\w'=w:=by
 have hl:=hz.1;have hfl:=P5 xs;rw[hl] at hfl;have H1:=hZ (wE xs);have H2:=hZ (yQ xs);have HL:=hZ hl;have HI:Hid (Ph xs=if firstT xs<n then(firstT xs:Int) else -1):=hZ (by unfold Ph;rw[hl]);clear hl;generalize firstT xs=m at*;have HZ:=hZ hz;clear hz;rcases Nat.eq_zero_or_pos n with h0|h0
 ·subst h0
  go_enter Tryz.func152,Tryz.ntmps152;go_wp2
  go_loop [5,8] (λ_ i=>i=.int .i64 0) (λ_ i=>1 - (intOf i).toNat)
  case atStart=>exact rfl
  case round=>
   subst hrel;go_wp2;go_ret;exact⟨iR (by rw[HI.out,if_neg (by omega)]),rfl⟩
 ·obtain⟨b,off,rfl,hb⟩:=aBO HZ.out h0
  go_enter Tryz.func152,Tryz.ntmps152;go_wp2
  go_loop [5,8] (λ_ i=>∃k:Nat,k<=m/\i=.int .i64 k) (λ_ i=>n - (intOf i).toNat)
  case atStart=>exact⟨0,by omega,rfl⟩
  case round=>
   obtain⟨k,hk,rfl⟩:=hrel;by_cases hlt:k<n
   ·have hck:=aBP HZ.out hlt
    by_cases hm:k<m
    ·have hx:=H1.out k hm
     rw[hx] at hck;go_wp2
     go_round
     case rel=>exact⟨k+1,by omega,by go_num⟩
     case measure=>simp[intOf];omega
    ·have wD:k=m:=by omega
     subst wD;have hx:=H2.out (by rw[HL.out];exact hlt);rw[hx] at hck;go_wp2;go_ret;exact⟨iR (by rw[HI.out,if_pos hlt]),rfl⟩
   ·have wD:k=m:=by omega
    subst wD;go_wp2;go_ret;exact⟨iR (by rw[HI.out,if_neg hlt]),rfl⟩
end Go.Proofs.YtoogfmbojlpjaaaGreat
namespace Go.Proofs.YtoogfmbojlpjaaaGreat
section
def gU (h n k:Nat):Nat:=(h+k)%n
def mb (l:List Bool) (i:Nat):Bool:=l.getD i false
def pK (may used:List Bool) (h n:Nat):Nat->List Bool
 |0=>used
 |k+1=>if mb may (gU h n k) then(pK may used h n k).set (gU h n k) false else pK may used h n k
def Uv (may used:List Bool) (h n:Nat):List Bool:=(List.range n).map λk=>mb may (gU h n k)&& !mb used (gU h n k)
def Us (may:List Bool) (h n:Nat):List Bool:=(List.range n).map λk=>mb may (gU h n k)
def Uu (may used:List Bool) (h n:Nat):Nat:=firstT (Uv may used h n)
def Cn (may:List Bool) (h n:Nat):Nat:=firstT (Us may h n)
def La (may used:List Bool) (h n:Nat):Nat:=if Uu may used h n<n then Uu may used h n else n+Cn may h n
def vY (may used:List Bool) (h n:Nat):Nat:=gU h n (La may used h n)
def aB2 (may used:List Bool) (h n:Nat):List Bool:=pK may used h n (La may used h n)
theorem aKj {h n:Nat} (k:Nat) (hn:0<n):gU h n k<n:=Nat.mod_lt _ hn
theorem aBU (h n k:Nat):gU h n (n+k)=gU h n k:=by unfold gU;rw[show h+(n+k)=h+k+n by omega,Nat.add_mod_right]
theorem aK5 {h n k:Nat} :gU h n (k+1)=(gU h n k+1)%n:=by unfold gU;rw[Nat.mod_add_mod,Nat.add_assoc]
theorem aOl {h n:Nat} (hh:h<n):gU h n 0=h:=by unfold gU;rw[Nat.add_zero,Nat.mod_eq_of_lt hh]
theorem aA8 {h n k:Nat} (hh:h<n) (hk:k<n):gU h n k=if h+k<n then h+k else h+k -n:=by
 unfold gU;split
 ·exact Nat.mod_eq_of_lt ‹_›
 ·rw[Nat.mod_eq_sub_mod (by omega),Nat.mod_eq_of_lt (by omega)]
theorem aBT {h n i k:Nat} (hh:h<n) (hi:i<n) (hk:k<n) (e:gU h n i=gU h n k):i=k:=by
 rw[aA8 hh hi,aA8 hh hk] at e;split at e<;>split at e<;>omega
theorem aK4 {h n j:Nat} (hh:h<n) (hj:j<n):∃k,k<n/\gU h n k=j:=by
 by_cases e:h<=j
 ·exact⟨j -h,by omega,by rw[aA8 hh (by omega),if_pos (by omega)];omega⟩
 ·exact⟨j+n -h,by omega,by rw[aA8 hh (by omega),if_neg (by omega)];omega⟩
theorem aCd (l:List Bool) (i j:Nat) (b:Bool):mb (l.set i b) j=if i=j/\j<l.length then b else mb l j:=by
 unfold mb;by_cases e:i=j
 ·subst e
  by_cases h:i<l.length
  ·simp[List.getD,h]
  ·simp[List.getD,h]
 ·simp[List.getD,e]
theorem aML {l:List Bool} {i:Nat} (h:l.length<=i):mb l i=false:=by simp[mb,List.getD,List.getElem?_eq_none h]
section
variable {may used:List Bool} {h n:Nat}
theorem aAp (k:Nat):pK may used h n (k+1)=if mb may (gU h n k) then(pK may used h n k).set (gU h n k) false else pK may used h n k:=rfl
theorem Km {j:Nat} :∀k,(∀i,i<k->mb may (gU h n i)=true->gU h n i≠j)->mb (pK may used h n k) j=mb used j
 |0,_=>rfl
 |k+1,hk=>by
  unfold pK;have ih:=Km k (λi hi=>hk i (by omega));split
  ·rename_i hm
   rw[aCd,if_neg (λe=>hk k (by omega) hm e.1),ih]
  ·exact ih
theorem aEe {i:Nat} (hm:mb may (gU h n i)=true):∀k,i<k->mb (pK may used h n k) (gU h n i)=false
 |0,hk=>by omega
 |k+1,hk=>by
  unfold pK;by_cases e:i=k
  ·subst e
   rw[if_pos hm,aCd];split
   ·rfl
   ·rename_i hx
    exact aML (by have:¬(gU h n i<(pK may used h n i).length):=λhh=>hx ⟨rfl,hh⟩;omega)
  ·have ih:=aEe hm k (by omega)
   split
   ·rw[aCd];split
    ·rfl
    ·exact ih
   ·exact ih
theorem aEw {k:Nat} (hk:k<n):(Uv may used h n).getD k false=(mb may (gU h n k)&& !mb used (gU h n k)):=by simp[Uv,List.getD,hk]
theorem aEm {k:Nat} (hk:k<n):(Us may h n).getD k false=mb may (gU h n k):=by simp[Us,List.getD,hk]
theorem aI4:(Uv may used h n).length=n:=by simp[Uv]
theorem aIM:(Us may h n).length=n:=by simp[Us]
theorem aEt {k:Nat} (hk:k<Uu may used h n) (hn:k<n) (hm:mb may (gU h n k)=true):mb used (gU h n k)=true:=by
 have:=wE (Uv may used h n) k hk;rw[aEw hn,hm] at this;simpa using this
theorem aIQ (hn:Uu may used h n<n):mb may (gU h n (Uu may used h n))=true/\mb used (gU h n (Uu may used h n))=false:=by
 have:=yQ (Uv may used h n) (by rw[aI4];exact hn);unfold Uu at hn⊢;rw[aEw hn] at this;simpa using this
theorem Zd {k:Nat} (hk:k<Cn may h n) (hn:k<n):mb may (gU h n k)=false:=by
 have:=wE (Us may h n) k hk;rwa[aEm hn] at this
theorem aCl (hn:Cn may h n<n):mb may (gU h n (Cn may h n))=true:=by
 have:=yQ (Us may h n) (by rw[aIM];exact hn);unfold Cn at hn⊢;rwa[aEm hn] at this
theorem aEs (hh:h<n) (hl:may.length=n) (hm:firstT may<may.length):Cn may h n<n:=by
 have h1:=yQ may hm;obtain⟨k,hk,e⟩:=aK4 (h:=h) hh (show firstT may<n by omega);rcases Nat.lt_or_ge (Cn may h n) n with g|g
 ·exact g
 ·have:=Zd (may:=may) (h:=h) (n:=n) (k:=k) (by omega) hk
  rw[e] at this;unfold mb at this;rw[h1] at this;cases this
theorem aAq (hn:Cn may h n<n):∀i,i<=Cn may h n->pK may used h n (n+i)=pK may used h n n
 |0,_=>rfl
 |i+1,hi=>by
  rw[show n+(i+1)=(n+i)+1 by omega,aAp,aBU,Zd (by omega) (by omega)];simpa using aAq hn i (by omega)
theorem aKR (hh:h<n) (hn:Cn may h n<n) {k:Nat} (hk:k<La may used h n) (hm:mb may (gU h n k)=true):mb (pK may used h n k) (gU h n k)=true:=by
 unfold La at hk;split at hk
 ·rw[Km k (λi hi _ e=>by have:=aBT hh (by omega) (by omega) e;omega)]
  exact aEt hk (by omega) hm
 ·rcases Nat.lt_or_ge k n with g|g
  ·rw[Km k (λi hi _ e=>by have:=aBT hh (by omega) (by omega) e;omega)]
   exact aEt (by omega) g hm
  ·obtain⟨i,rfl⟩:∃i,k=n+i:=⟨k -n,by omega⟩
   rw[aBU,Zd (by omega) (by omega)] at hm;cases hm
theorem aBE (hh:h<n) (hn:Cn may h n<n):mb may (vY may used h n)=true/\mb (aB2 may used h n) (vY may used h n)=false:=by
 unfold vY aB2 La;split
 ·rename_i g
  obtain⟨h1,h2⟩:=aIQ g;refine⟨h1,?_⟩;rw[Km _ (λi hi _ e=>by have:=aBT hh (by omega) (by omega) e;omega)];exact h2
 ·rw[aBU]
  refine⟨aCl hn,?_⟩;rw[aAq hn _ (nR _)];exact aEe (aCl hn) n hn
end
end
end Go.Proofs.YtoogfmbojlpjaaaGreat
