/- Lemmas. -/
import Derived.Test.YtoogfmbojlpjaaaGreatQ1
import Derived.OwnWalk
import Derived.Lib.SliceRun
import Derived.Test.YtoogfmbojlpjaaaGreatQA
set_option maxRecDepth 100000
set_option maxHeartbeats 32000000
set_option linter.unusedVariables false
set_option linter.unusedSimpArgs false
namespace Go.Proofs.YtoogfmbojlpjaaaGreat
open Go.RowKit
def Own (k:IntKind) (T:TypeId) (w:World) (base:Nat) (A:Option Addr) (n c:Nat) (zs:List Int):Prop:=
 zs.length=n/\n<=c/\c<=maxLen/\(0<n->∃g cur,A=some ⟨g,0,none⟩/\base<=g/\w.heap[g]? =some (.cells cur T (0,0))/\∀i,i<n->cur[i]? =some (.int k (zs.getD i 0)))
theorem dW {w:World} {g:Nat} {cur:Array Value} {T:TypeId} (h:w.heap[g]? =some (.cells cur T (0,0))) (i:Nat):w.cell? ⟨g,i,none⟩=cur[i]? :=by
 simp[World.cell?,h]
theorem gQ {w:World} {g:Nat} {cur:Array Value} {T:TypeId} (h:w.heap[g]? =some (.cells cur T (0,0))) (i:Nat):w.frozen? ⟨g,i,none⟩=false:=by
 simp[World.frozen?,h]
theorem kM {w:World} {g:Nat} {o:Obj} (h:w.heap[g]? =some o):g<w.heap.size:=by
 rcases Nat.lt_or_ge g w.heap.size with hlt|hge
 ·exact hlt
 ·rw[Array.getElem?_eq_none hge] at h;cases h
theorem Own.below {k:IntKind} {T:TypeId} {w w':World} {base B:Nat} {A:Option Addr} {n c:Nat} {zs:List Int} (h:Own k T w base A n c zs) (hb:Below B w w') (hB:w.heap.size<=B):Own k T w' base A n c zs:=
 ⟨h.1,h.2.1,h.2.2.1,λhn=>by
   obtain⟨g,cur,e,hg,hh,hc⟩:=h.2.2.2 hn;exact⟨g,cur,e,hg,(hb.block g (Nat.lt_of_lt_of_le (kM hh) hB)).trans hh,hc⟩⟩
theorem Own.row {k:IntKind} {T:TypeId} {w:World} {base:Nat} {A:Option Addr} {n c:Nat} {zs:List Int} (h:Own k T w base A n c zs):Row k w w.heap.size A n zs:=
 ⟨h.1,Nat.le_trans h.2.1 h.2.2.1,λhn=>by
   obtain⟨g,cur,e,hg,hh,hc⟩:=h.2.2.2 hn;exact⟨g,0,e,kM hh,λi hi=>by rw[dW hh,Nat.zero_add];exact hc i hi⟩⟩
theorem Own.Ov {k:IntKind} {T:TypeId} {w:World} {base n:Nat} {v:Value} {zs:List Int} (h:w.ownsRow base T 1 v n (zs.map (Value.int k))):∃A c,v=.slice A n c/\Own k T w base A n c zs:=by
 obtain⟨hl,h|⟨g,cap,cur,rfl,hg,hh,hn,hm,hs,hx⟩⟩:=h
 ·obtain⟨rfl,rfl⟩:=h
  exact⟨none,0,rfl,by simpa using hl,nR _,by simp,λhn=>absurd hn (by omega)⟩
 ·refine⟨_,cap,rfl,by simpa using hl,hn,hm,λ_=>⟨g,cur,rfl,hg,hh,λi hi=> ?_⟩⟩
  have hlz:i<zs.length:=by have:zs.length=n:=by simpa using hl
                           omega
  have e1:(cur.toList.take (n*1))[i]? =some (.int k (zs.getD i 0)):=by
   rw[hx];simp[List.getD,List.getElem?_eq_getElem hlz]
  rw[List.getElem?_take] at e1;rw[if_pos (by omega)] at e1;simpa using e1
theorem Own.wT {k:IntKind} {T:TypeId} {w:World} {base g n c i:Nat} {zs:List Int} {x:Int} (h:Own k T w base (some ⟨g,0,none⟩) n c zs) (hi:i<n):Own k T (w.setCell ⟨g,i,none⟩ (.int k x)) base (some ⟨g,0,none⟩) n c (zs.set i x):=by
 obtain⟨h1,h2,h3,h4⟩:=h;refine⟨by simpa using h1,h2,h3,λhn=> ?_⟩;obtain⟨g',cur,e,hg,hh,hc⟩:=h4 hn;injection e with e;injection e with e;subst e;refine⟨g,cur.setIfInBounds i (.int k x),rfl,hg,?_,λj hj=> ?_⟩
 ·simp[World.setCell,Array.getElem?_modify,hh]
 ·have hsz:i<cur.size:=by
   have:=hc i hi;exact(Array.getElem?_eq_some_iff.1 this).1
  by_cases e:j=i
  ·subst e
   rw[Array.getElem?_setIfInBounds_self_of_lt hsz];simp[List.getD,h1,hi]
  ·rw[Array.getElem?_setIfInBounds_ne (λh=>e h.symm),hc j hj]
   simp[List.getD,Ne.symm e]
theorem aAB {zs:List Int} {i:Nat} (h:i<zs.length):zs.getD i 0=zs[i]:=by simp[List.getD,List.getElem?_eq_getElem h]
def Bytes (zs:List Int):Prop:=∀i,0<=zs.getD i 0/\zs.getD i 0<256
def num (zs:List Int) (a:Nat):Nat->Int
 |0=>0
 |n+1=>zs.getD a 0+256*num zs (a+1) n
def Bb (zs:List Int) (p n:Int):Int:=if n<1\/4<n\/p<0\/(zs.length:Int)<p+n then 2 else 0
def wL (zs:List Int) (p n:Int):Int:=if n<1\/4<n\/p<0\/(zs.length:Int)<p+n then 0 else num zs p.toNat n.toNat
theorem orz {x:Int} (h0:0<=x) (h1:x<256):bits .or .i64 0 x=x:=by rw[vK 0 0 x (by omega) (by omega) h0 (by omega) (by omega)];omega
theorem or1 {x y:Int} (h0:0<=x) (h1:x<256) (g0:0<=y) (g1:y<256):bits .or .i64 x (y*256)=x+y*256:=vK 8 x (y*256) h0 (by omega) (by omega) (by omega) (by omega)
theorem or2 {x y:Int} (h0:0<=x) (h1:x<65536) (g0:0<=y) (g1:y<256):bits .or .i64 x (y*65536)=x+y*65536:=vK 16 x (y*65536) h0 (by omega) (by omega) (by omega) (by omega)
theorem or3 {x y:Int} (h0:0<=x) (h1:x<16777216) (g0:0<=y) (g1:y<256):bits .or .i64 x (y*16777216)=x+y*16777216:=vK 24 x (y*16777216) h0 (by omega) (by omega) (by omega) (by omega)
theorem aMt (A:Option Addr) (len c:Nat) (zs:List Int) (a:Nat) (w:World) (B:Nat) (hz:Row .u8 w B A len zs) (hb:Bytes zs) (hn:len<=140737488355328) (ha:a+1<=len):
 Calls Tryz.prog 160 #[.slice A len c,.int .i64 a,.int .i64 1] w λe w'=>e=.returned (.tuple #[.int .i64 (num zs a 1),.int .i64 0])/\w'=w:=by
 have hc:∀i,i<1->∃b off,A=some ⟨b,off,none⟩/\b<B/\w.cell? ⟨b,off+(a+i),none⟩=some (.int .u8 (zs.getD (a+i) 0)):=λi hi=>hz.at_ (show a+i<len by omega);obtain⟨b,off,rfl,hB',c0⟩:=hc 0 (by omega);simp only[Nat.add_zero] at c0;obtain⟨l0,h0⟩:0<=zs[a]?.getD 0/\zs[a]?.getD 0<256:=hb (a+0);have hf:(a:Int)<=(len:Int) -1:=by omega
 have hd:decide ((a:Int)<=(len:Int) -1)=true:=by simp;omega
 clear hz hb hc;go_enter Tryz.func160,Tryz.ntmps160;go_wp2;refine wp_loop_rounds 2 ?_;repeat any_goals (rw[rounds_succ];go_wp2)
 go_ret2
 refine⟨jQ ?_ rfl,rfl⟩;rw[orz l0 h0];show _=zs.getD a 0+256*0;show zs.getD a 0=_;omega
theorem aMs (A:Option Addr) (len c:Nat) (zs:List Int) (a:Nat) (w:World) (B:Nat) (hz:Row .u8 w B A len zs) (hb:Bytes zs) (hn:len<=140737488355328) (ha:a+2<=len):
 Calls Tryz.prog 160 #[.slice A len c,.int .i64 a,.int .i64 2] w λe w'=>e=.returned (.tuple #[.int .i64 (num zs a 2),.int .i64 0])/\w'=w:=by
 have hc:∀i,i<2->∃b off,A=some ⟨b,off,none⟩/\b<B/\w.cell? ⟨b,off+(a+i),none⟩=some (.int .u8 (zs.getD (a+i) 0)):=λi hi=>hz.at_ (show a+i<len by omega);obtain⟨b,off,rfl,hB',c0⟩:=hc 0 (by omega);simp only[Nat.add_zero] at c0;obtain⟨_,_,e1,_,c1⟩:=hc 1 (by omega);obtain⟨rfl,rfl⟩:=Addr.mk.inj (Option.some.inj e1) |>.imp id And.left;obtain⟨l0,h0⟩:0<=zs[a]?.getD 0/\zs[a]?.getD 0<256:=hb (a+0);obtain⟨l1,h1⟩:0<=zs[a+1]?.getD 0/\zs[a+1]?.getD 0<256:=hb (a+1);have hf:(a:Int)<=(len:Int) -2:=by omega
 have hd:decide ((a:Int)<=(len:Int) -2)=true:=by simp;omega
 clear hz hb hc;go_enter Tryz.func160,Tryz.ntmps160;go_wp2;refine wp_loop_rounds 3 ?_;repeat any_goals (rw[rounds_succ];go_wp2)
 go_ret2
 refine⟨jQ ?_ rfl,rfl⟩;rw[orz l0 h0,or1 l0 h0 l1 h1];show _=zs.getD a 0+256*(zs.getD (a+1) 0+256*0);show zs.getD a 0+zs.getD (a+1) 0*256=_;omega
theorem aMr (A:Option Addr) (len c:Nat) (zs:List Int) (a:Nat) (w:World) (B:Nat) (hz:Row .u8 w B A len zs) (hb:Bytes zs) (hn:len<=140737488355328) (ha:a+3<=len):
 Calls Tryz.prog 160 #[.slice A len c,.int .i64 a,.int .i64 3] w λe w'=>e=.returned (.tuple #[.int .i64 (num zs a 3),.int .i64 0])/\w'=w:=by
 have hc:∀i,i<3->∃b off,A=some ⟨b,off,none⟩/\b<B/\w.cell? ⟨b,off+(a+i),none⟩=some (.int .u8 (zs.getD (a+i) 0)):=λi hi=>hz.at_ (show a+i<len by omega);obtain⟨b,off,rfl,hB',c0⟩:=hc 0 (by omega);simp only[Nat.add_zero] at c0;obtain⟨_,_,e1,_,c1⟩:=hc 1 (by omega);obtain⟨rfl,rfl⟩:=Addr.mk.inj (Option.some.inj e1) |>.imp id And.left;obtain⟨_,_,e2,_,c2⟩:=hc 2 (by omega);obtain⟨rfl,rfl⟩:=Addr.mk.inj (Option.some.inj e2) |>.imp id And.left;obtain⟨l0,h0⟩:0<=zs[a]?.getD 0/\zs[a]?.getD 0<256:=hb (a+0);obtain⟨l1,h1⟩:0<=zs[a+1]?.getD 0/\zs[a+1]?.getD 0<256:=hb (a+1);obtain⟨l2,h2⟩:0<=zs[a+2]?.getD 0/\zs[a+2]?.getD 0<256:=hb (a+2);have hf:(a:Int)<=(len:Int) -3:=by omega
 have hd:decide ((a:Int)<=(len:Int) -3)=true:=by simp;omega
 clear hz hb hc;go_enter Tryz.func160,Tryz.ntmps160;go_wp2;refine wp_loop_rounds 4 ?_;repeat any_goals (rw[rounds_succ];go_wp2)
 go_ret2
 refine⟨jQ ?_ rfl,rfl⟩;rw[orz l0 h0,or1 l0 h0 l1 h1,or2 (by omega) (by omega) l2 h2];show _=zs.getD a 0+256*(zs.getD (a+1) 0+256*(zs.getD (a+2) 0+256*0));show zs.getD a 0+zs.getD (a+1) 0*256+zs.getD (a+2) 0*65536=_;omega
theorem aMq (A:Option Addr) (len c:Nat) (zs:List Int) (a:Nat) (w:World) (B:Nat) (hz:Row .u8 w B A len zs) (hb:Bytes zs) (hn:len<=140737488355328) (ha:a+4<=len):
 Calls Tryz.prog 160 #[.slice A len c,.int .i64 a,.int .i64 4] w λe w'=>e=.returned (.tuple #[.int .i64 (num zs a 4),.int .i64 0])/\w'=w:=by
 have hc:∀i,i<4->∃b off,A=some ⟨b,off,none⟩/\b<B/\w.cell? ⟨b,off+(a+i),none⟩=some (.int .u8 (zs.getD (a+i) 0)):=λi hi=>hz.at_ (show a+i<len by omega);obtain⟨b,off,rfl,hB',c0⟩:=hc 0 (by omega);simp only[Nat.add_zero] at c0;obtain⟨_,_,e1,_,c1⟩:=hc 1 (by omega);obtain⟨rfl,rfl⟩:=Addr.mk.inj (Option.some.inj e1) |>.imp id And.left;obtain⟨_,_,e2,_,c2⟩:=hc 2 (by omega);obtain⟨rfl,rfl⟩:=Addr.mk.inj (Option.some.inj e2) |>.imp id And.left;obtain⟨_,_,e3,_,c3⟩:=hc 3 (by omega);obtain⟨rfl,rfl⟩:=Addr.mk.inj (Option.some.inj e3) |>.imp id And.left;obtain⟨l0,h0⟩:0<=zs[a]?.getD 0/\zs[a]?.getD 0<256:=hb (a+0);obtain⟨l1,h1⟩:0<=zs[a+1]?.getD 0/\zs[a+1]?.getD 0<256:=hb (a+1);obtain⟨l2,h2⟩:0<=zs[a+2]?.getD 0/\zs[a+2]?.getD 0<256:=hb (a+2);obtain⟨l3,h3⟩:0<=zs[a+3]?.getD 0/\zs[a+3]?.getD 0<256:=hb (a+3);have hf:(a:Int)<=(len:Int) -4:=by omega
 have hd:decide ((a:Int)<=(len:Int) -4)=true:=by simp;omega
 clear hz hb hc;go_enter Tryz.func160,Tryz.ntmps160;go_wp2;refine wp_loop_rounds 5 ?_;repeat any_goals (rw[rounds_succ];go_wp2)
 go_ret2
 refine⟨jQ ?_ rfl,rfl⟩;rw[orz l0 h0,or1 l0 h0 l1 h1,or2 (by omega) (by omega) l2 h2,or3 (by omega) (by omega) l3 h3];show _=zs.getD a 0+256*(zs.getD (a+1) 0+256*(zs.getD (a+2) 0+256*(zs.getD (a+3) 0+256*0)));show zs.getD a 0+zs.getD (a+1) 0*256+zs.getD (a+2) 0*65536+zs.getD (a+3) 0*16777216=_;omega
theorem aK7 (A:Option Addr) (len c:Nat) (zs:List Int) (p n:Int) (w:World) (hn:len<=140737488355328) (h:n<1\/4<n\/p<0\/(1<=n/\n<=4/\(len:Int) -n<p)):
 Calls Tryz.prog 160 #[.slice A len c,.int .i64 p,.int .i64 n] w λe w'=>e=.returned (.tuple #[.int .i64 0,.int .i64 2])/\w'=w:=by
 rcases h with h|h|h|⟨g1,g2,h⟩
 ·go_enter Tryz.func160,Tryz.ntmps160
  go_wp2
  all_goals go_ret2
  all_goals exact⟨rfl,rfl⟩
 ·go_enter Tryz.func160,Tryz.ntmps160
  go_wp2
  all_goals go_ret2
  all_goals exact⟨rfl,rfl⟩
 ·go_enter Tryz.func160,Tryz.ntmps160
  go_wp2
  all_goals go_ret2
  all_goals exact⟨rfl,rfl⟩
 ·have hd:decide (p<=(len:Int) -n)=false:=by simp;omega
  go_enter Tryz.func160,Tryz.ntmps160;go_wp2
  all_goals go_ret2
  all_goals exact⟨rfl,rfl⟩
theorem aBY (A:Option Addr) (len c:Nat) (zs:List Int) (p n:Int) (w:World) (B:Nat) (hz:Row .u8 w B A len zs) (hb:Bytes zs) (hn:len<=140737488355328):
 Calls Tryz.prog 160 #[.slice A len c,.int .i64 p,.int .i64 n] w λe w'=>e=.returned (.tuple #[.int .i64 (wL zs p n),.int .i64 (Bb zs p n)])/\w'=w:=by
 have hl:=hz.1;by_cases h:n<1\/4<n\/p<0\/(zs.length:Int)<p+n
 ·have e1:wL zs p n=0:=by unfold wL;rw[if_pos h]
  have e2:Bb zs p n=2:=by unfold Bb;rw[if_pos h]
  rw[e1,e2];exact aK7 A len c zs p n w hn (by omega)
 ·have e1:wL zs p n=num zs p.toNat n.toNat:=by unfold wL;rw[if_neg h]
  have e2:Bb zs p n=0:=by unfold Bb;rw[if_neg h]
  rw[e1,e2];obtain⟨a,rfl⟩:=Int.eq_ofNat_of_zero_le (show 0<=p by omega);have hc:n=1\/n=2\/n=3\/n=4:=by omega
  rw[Int.toNat_natCast];rcases hc with rfl|rfl|rfl|rfl
  ·exact aMt A len c zs a w B hz hb hn (by omega)
  ·exact aMs A len c zs a w B hz hb hn (by omega)
  ·exact aMr A len c zs a w B hz hb hn (by omega)
  ·exact aMq A len c zs a w B hz hb hn (by omega)
def fD (n:Int):Int:=if n<0\/64<=n then -1 else n*64
theorem kI (n:Int) (w:World):Calls Tryz.prog 106 #[.int .i64 n] w λe w'=>e=.returned (.int .i64 (fD n))/\w'=w:=by
 by_cases h:n<0\/64<=n
 ·have e:fD n= -1:=by unfold fD;rw[if_pos h]
  rw[e];clear e;rcases h with h|h
  ·go_enter Tryz.func106,Tryz.ntmps106
   go_wp2
   all_goals go_ret
   all_goals exact⟨rfl,rfl⟩
  ·go_enter Tryz.func106,Tryz.ntmps106
   go_wp2
   all_goals go_ret
   all_goals exact⟨rfl,rfl⟩
 ·have e:fD n=n*64:=by unfold fD;rw[if_neg h]
  rw[e];clear e;have h0:0<=n:=by omega
  have h1:n<64:=by omega
  clear h;go_enter Tryz.func106,Tryz.ntmps106;go_wp2;go_ret;exact⟨rfl,rfl⟩
theorem aGu:(Tryz.prog.info? 5).map (λi=>(i.zero,i.size,i.bytes))=some (some (.int .u8 0),1,1):=by kernel_rfl
theorem eq_nil (w:World) (a:Option Addr) (n c n' c':Nat):(binOp .eql 58 (.slice a n c) (.slice none n' c')).run Tryz.prog w=.ok (.bool a.isNone) w:=Lib.run_eql_slice_nil w _ _ a n c n' c' Tryz.underlying58
theorem aAR (A:Option Addr) (n c:Nat) (zs:List Int) (w:World) (B:Nat) (hz:Row .u8 w B A n zs) (_:B<=w.heap.size) (hbig:n<=140737488355328):
 Calls Tryz.prog 26 #[.slice A n c] w λe w'=>∃A' c',e=.returned (.slice A' n c')/\Own .u8 5 w' w.heap.size A' n c' zs/\Below w.heap.size w w':=by
 have q:=eq_nil;cases A with
 |none=>
  have h0:n=0:=by
   rcases Nat.eq_zero_or_pos n with h|h
   ·exact h
   ·obtain⟨_,_,e,_⟩:=hz.2.2 h;cases e
  subst h0;have hl:=hz.1;have HL:=hZ hl;clear hl hz;go_enter Tryz.func26,Tryz.ntmps26;go_wp2;go_ret;exact⟨none,0,rfl,⟨HL.out,nR _,by simp,λh=>absurd h (by omega)⟩,Below.refl _ _⟩
 |some x=>
  obtain⟨i0,hi,hz0,hz1,hz2⟩:=info_parts aGu;have hcell:∀j u,(zs.map (Value.int .u8))[j]? =some u->w.cell? (x.add j)=some u:=by
   intro j u hj;have hjl:j<zs.length:=by
    have:=(List.getElem?_eq_some_iff.1 hj).1;simpa using this
   obtain⟨b,off,e,hb,hc⟩:=hz.2.2 (by rw[<-hz.1];omega);injection e with e;subst e;rw[Addr.add_lit,hc j (by rw[<-hz.1];exact hjl)];rw[List.getElem?_map,List.getElem?_eq_getElem hjl] at hj;simp at hj;rw[<-hj,aAB hjl]
  have hl:(zs.map (Value.int .u8)).length=n*1:=by simp[hz.1]
  have HC:=hZ hcell;have HL:=hZ hl;clear hcell hl hz;go_enter Tryz.func26,Tryz.ntmps26;go_wp2_with(at_builtin;refine wpList_append_own _ rfl _ _ 58 rfl w.heap.size 5 i0 (.int .u8 0) 1 1 Tryz.underlying58 hi hz0 hz1 hz2 rfl (by decide) _ _ _ rfl (World.ownsRow_made w #[] 0 (nR _) (Nat.zero_le _) rfl) x n c (zs.map (Value.int .u8)) rfl ?qc1 ?qc2 ?qc3 ?qc4 ?qc5 ?qc6 ?_)
  case qc1=>exact HL.out
  case qc2=>
   intro j u hj;exact Lib.cell?_alloc_some _ (HC.out j u hj)
  case qc3=>intro u hu;obtain⟨y,_,rfl⟩:=List.mem_map.1 hu;rfl
  case qc4=>unfold maxLen;omega
  case qc5=>omega
  case qc6=>simp
  intro v' w1 hown hgrow hnil;go_wp2;go_ret;obtain⟨A',c',rfl,ho⟩:=Own.Ov hown;exact⟨A',c',rfl,ho,((Below.refl _ w).alloc (nR _) _).grown hgrow (by simp) (by intro k hk;simp[Value.ownBlock] at hk;omega)⟩
def J7 (zs:List Int) (g:Int):Int:=if g<0\/2*(zs.length:Int)<=g then 2 else 0
def dZ (zs:List Int) (g:Int):Int:=if g<0\/2*(zs.length:Int)<=g then 0 else if g%2=0 then zs.getD (g/2).toNat 0%16 else zs.getD (g/2).toNat 0/16
theorem aDm {x:Int} (h0:0<=x) (h1:x<256):bits .and .u8 x 15=x%16:=by
 rw[u8_and x 15 h0 h1 (by decide) (by decide)];show((x.toNat&&& 15:Nat):Int)=_;rw[nat_mask4];omega
theorem w64 {x:Int} (h0:0<=x) (h1:x<256):wrap64 x=x:=by unfold wrap64;omega
theorem tlo {zs:List Int} {n k:Nat} (hl:zs.length=n) (hk:k<n) (b0:0<=zs.getD k 0) (b1:zs.getD k 0<256):wrap64 (bits .and .u8 (zs[k]?.getD 0) 15)=dZ zs (2*(k:Int)):=by
 change wrap64 (bits .and .u8 (zs.getD k 0) 15)=_;rw[aDm b0 b1,w64 (by omega) (by omega)];unfold dZ;rw[if_neg (by omega),if_pos (by omega),show(2*(k:Int)/2).toNat=k by omega]
theorem thi {zs:List Int} {n k:Nat} (hl:zs.length=n) (hk:k<n) (b0:0<=zs.getD k 0) (b1:zs.getD k 0<256):wrap64 (bits .and .u8 (zs[k]?.getD 0/16) 15)=dZ zs (2*(k:Int)+1):=by
 change wrap64 (bits .and .u8 (zs.getD k 0/16) 15)=_;rw[aDm (by omega) (by omega),w64 (by omega) (by omega)];unfold dZ;rw[if_neg (by omega),if_neg (by omega),show((2*(k:Int)+1)/2).toNat=k by omega];omega
theorem aJb (A:Option Addr) (n c:Nat) (zs:List Int) (g:Int) (w:World) (B:Nat) (hz:Row .u8 w B A n zs) (hb:Bytes zs) (_:B<=w.heap.size) (hn:n<=140737488355328):
 Calls Tryz.prog 112 #[.slice A n c,.int .i64 g] w λe w'=>e=.returned (.tuple #[.int .i64 (dZ zs g),.int .i64 (J7 zs g)])/\w'=w:=by
 have hl:=hz.1;by_cases h:g<0\/2*(n:Int)<=g
 ·have HL:=hZ hl;have HZ:=hZ hz
  clear hl hz;rcases h with h|h
  all_goals
   go_enter Tryz.func112,Tryz.ntmps112;go_wp2
   go_ret2
   exact⟨jQ (by unfold dZ;rw[if_pos (by rw[HL.out];omega)]) (by unfold J7;rw[if_pos (by rw[HL.out];omega)]),rfl⟩
 ·obtain⟨k,hk⟩:∃k:Nat,g=2*(k:Int)\/g=2*(k:Int)+1:=⟨(g/2).toNat,by omega⟩
  have hkn:k<n:=by omega
  obtain⟨b,off,rfl,hB',hc⟩:=hz.at_ hkn;have hbk:=hb k;obtain⟨b0,b1⟩:=hbk;have HL:=hZ hl;have HZ:=hZ hz;have HB:=hZ hb;clear hl hz hb;rcases hk with rfl|rfl
  ·have e1:(2*(k:Int))/2=k:=by omega
   have e2:(2*(k:Int))%2=0:=by omega
   go_enter Tryz.func112,Tryz.ntmps112;go_wp2
   go_ret2
   exact⟨jQ (tlo HL.out hkn b0 b1) (by unfold J7;rw[if_neg (by rw[HL.out];omega)]),rfl⟩
  ·have e1:(2*(k:Int)+1)/2=k:=by omega
   have e2:(2*(k:Int)+1)%2=1:=by omega
   go_enter Tryz.func112,Tryz.ntmps112;go_wp2
   go_ret2
   exact⟨jQ (thi HL.out hkn b0 b1) (by unfold J7;rw[if_neg (by rw[HL.out];omega)]),rfl⟩
end Go.Proofs.YtoogfmbojlpjaaaGreat
