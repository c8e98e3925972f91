/- Lemmas. -/
import Derived.Test.YtoogfmbojlpjaaaGreatQ32
import Derived.Deep.RegionHeld3
import Derived.Test.YtoogfmbojlpjaaaGreatQ6
import Derived.Test.YtoogfmbojlpjaaaGreatQA
set_option maxRecDepth 100000
set_option maxHeartbeats 32000000
set_option linter.unusedVariables false
set_option linter.unusedSimpArgs false
namespace Go.Proofs.YtoogfmbojlpjaaaGreat
open Go.ChangeShapes Go.WideShapes Go.ChangeAt Go.RowKit Go.Joins
def Tl (w:World) (b o:Nat) (t:List iO):Prop:=∃A c,w.cell? ⟨b,o,none⟩=some (.slice A t.length c)/\w.frozen? ⟨b,o,none⟩=false/\Rw fC 4 w w.heap.size A t.length t
def TlO (w:World) (b o base:Nat) (t:List iO):Prop:=∃v,w.cell? ⟨b,o,none⟩=some v/\w.frozen? ⟨b,o,none⟩=false/\b<base/\Os fC 4 210 w base v t
theorem TlO.tl {w:World} {b o base:Nat} {t:List iO} (h:TlO w b o base t):Tl w b o t:=by
 obtain⟨v,h1,h2,_,h3⟩:=h;obtain⟨A,c,rfl,_,_,h4⟩:=h3.row qE;exact⟨A,c,h1,h2,h4⟩
def Past (B b o:Nat) (w w':World):Prop:=∃u,Below B (w.setCell ⟨b,o,none⟩ u) w'
def aEM (b o:Nat) (w:World) (t:List iO) (e:Ending) (w':World):Prop:=e=.returned (.tuple #[])/\TlO w' b o w.heap.size t/\Past w.heap.size b o w w'
theorem Ao {B:Nat} {w w':World} {p:Addr} {v:Value} (h:Below B w w'):Below B (w.setCell p v) (w'.setCell p v):=
 ⟨h.os,h.tape,h.output,by simpa[World.setCell] using h.size,λk hk=>by simp[World.setCell,Array.getElem?_modify,h.block k hk]⟩
theorem blk_setCell_other {w:World} {p:Addr} {v:Value} {g:Nat} (h:p.block≠g):(w.setCell p v).heap[g]? =w.heap[g]? :=by simp[World.setCell,Array.getElem?_modify,h]
theorem Os.setOther {α:Type} {f:α->List Value} {sz:Nat} {T:TypeId} {w:World} {base:Nat} {v u:Value} {xs:List α} {p:Addr} (h:Os f sz T w base v xs) (hp:p.block<base):Os f sz T (w.setCell p u) base v xs:=by
 obtain⟨h1,h|⟨g,cap,cur,e,hg,hh,hn,hm,hz,hx⟩⟩:=h
 ·exact⟨h1,.inl h⟩
 ·exact⟨h1,.inr ⟨g,cap,cur,e,hg,(blk_setCell_other (by omega)).trans hh,hn,hm,hz,hx⟩⟩
theorem pR {w:World} {b o:Nat} {u v:Value} (h:w.cell? ⟨b,o,none⟩=some u):(w.setCell ⟨b,o,none⟩ v).cell? ⟨b,o,none⟩=some v:=by
 simp only[World.cell?,World.setCell,Array.getElem?_modify] at*;cases hh:w.heap[b]? with
 |none=>rw[hh] at h;simp at h
 |some ob=>
  rw[hh] at h;cases ob<;>simp at h⊢;exact Array.getElem?_setIfInBounds_self_of_lt (Array.getElem?_eq_some_iff.1 h).1
theorem yO {w:World} {p:Addr} {v:Value} (h:w.frozen? p=false):(w.setCell p v).frozen? p=false:=by
 obtain⟨b,o,s⟩:=p;simp only[World.frozen?,World.setCell,Array.getElem?_modify] at*;cases hh:w.heap[b]? with
 |none=>simp
 |some ob=>rw[hh] at h;cases ob<;>simp_all
theorem aC0 (p:Int) (w:World) (b base:Nat) (hb:b<base) (hbase:base<=w.heap.size) (hc:w.cell? ⟨b,0,none⟩=some (.int .i64 p)):
 aBh 129 #[.pointer (some ⟨b,0,none⟩)] (aA7 p) base w:=by
 intro W x hW;have h1:W.cell? ⟨b,0,none⟩=some (.int .i64 p):=(hW.cell (p:=⟨b,0,none⟩) hb).trans hc;have hlt:b<W.heap.size:=by have:=hW.size;omega
 clear hW hc;go_enter Tryz.func129,Tryz.ntmps129;go_wp2;go_ret;exact⟨bH rfl,(Below.refl _ _).alloc (nR _) _⟩
theorem drop_pred (p g:Int) (w:World) (b1 b2 base:Nat) (hb1:b1<base) (hb2:b2<base) (hbase:base<=w.heap.size) (hc1:w.cell? ⟨b1,0,none⟩=some (.int .i64 p)) (hc2:w.cell? ⟨b2,0,none⟩=some (.int .i64 g)):
 aBh 154 #[.pointer (some ⟨b1,0,none⟩),.pointer (some ⟨b2,0,none⟩)] (Ke p g) base w:=by
 intro W x hW;have h1:W.cell? ⟨b1,0,none⟩=some (.int .i64 p):=(hW.cell (p:=⟨b1,0,none⟩) hb1).trans hc1;have h2:W.cell? ⟨b2,0,none⟩=some (.int .i64 g):=(hW.cell (p:=⟨b2,0,none⟩) hb2).trans hc2;have hlt1:b1<W.heap.size:=by have:=hW.size;omega
 have hlt2:b2<W.heap.size:=by have:=hW.size;omega
 clear hW hc1 hc2;cases hq:x.p==p with
 |true=>
  have HQ:=hZ hq;have hq':x.p=p:=by simpa using hq
  clear hq;go_enter Tryz.func154,Tryz.ntmps154;go_wp2;go_ret;exact⟨bH (by unfold Ke;rw[HQ.out];simp),(Below.refl _ _).alloc (nR _) _⟩
 |false=>
  have HQ:=hZ hq;go_enter Tryz.func154,Tryz.ntmps154;go_wp2;go_ret;exact⟨bH (by unfold Ke;rw[HQ.out];simp),(Below.refl _ _).alloc (nR _) _⟩
theorem Nw {w2:World} {b o base:Nat} {v u:Value} {t:List iO} (hu:w2.cell? ⟨b,o,none⟩=some u) (hf:w2.frozen? ⟨b,o,none⟩=false) (hb:b<base) (ho:Os fC 4 210 w2 base v t):TlO (w2.setCell ⟨b,o,none⟩ v) b o base t:=
 ⟨v,pR hu,yO hf,hb,ho.setOther hb⟩
theorem aDN (p:Int) (t:List iO) (b o:Nat) (w:World) (ht:Tl w b o t) (hn:t.length<=1000):
 Calls Tryz.prog 82 #[.pointer (some ⟨b,o,none⟩),.int .i64 p] w (aEM b o w (Fa p t)):=by
 obtain⟨A,c,hc,hf,hr⟩:=ht;have hb:b<w.heap.size:=lt_of_cell hc;have HR:=hZ hr;clear hr;go_enter Tryz.func82,Tryz.ntmps82;go_wp2_with fail
 refine(aEJ A t.length c t _ w.heap.size (HR.out.below ((Below.refl _ _).alloc (nR _) _)) (by simp) (by omega)).mono ?_;rintro e w1 ⟨v,rfl,ho,hb1⟩;simp only[World.size_alloc] at ho hb1;have hs1:w.heap.size+1<=w1.heap.size:=by have:=hb1.size;simp at this;omega
 have Ev:w1.cell? ⟨w.heap.size,0,none⟩=some (.int .i64 p):=by rw[hb1.cell (p:=⟨w.heap.size,0,none⟩) (Nat.lt_succ_self _)];simp[go_sem]
 have hP:=aC0 p w1 w.heap.size (w.heap.size+1) (Nat.lt_succ_self _) hs1 Ev;have HO:=hZ ho;clear ho Ev;go_wp2_with fail
 refine(Qb _ _ (enters_of Tryz.func129 (by kernel_rfl) rfl) (aA7 p) v t w1 (w.heap.size+1) HO.out hs1 (by omega) hP).mono ?_;rintro e w2 ⟨v2,rfl,ho2,hb2⟩;have hW:Below w.heap.size w w2:=(((Below.refl w.heap.size w).alloc (nR _) (.cells #[.int .i64 p] 3)).trans (hb1.mono (by omega))).trans (hb2.mono (by omega));have h3:w2.cell? ⟨b,o,none⟩=some (.slice A t.length c):=(hW.cell (p:=⟨b,o,none⟩) hb).trans hc;have h4:w2.frozen? ⟨b,o,none⟩=false:=(hW.frozen (p:=⟨b,o,none⟩) hb).trans hf;obtain⟨A2,c2,rfl,_,_,_⟩:=ho2.row qE;have rX:=hZ (ho2.gD (show w.heap.size<=w.heap.size+1 by omega));have HW:=hZ hW;clear ho2 hW hb1 hb2 hP HO HR;go_wp2
 go_end0
 exact⟨rfl,Nw h3 h4 hb rX.out,_,Ao HW.out⟩
theorem aCZ (p g:Int) (t:List iO) (b o:Nat) (w:World) (ht:Tl w b o t) (hn:t.length<=1000):
 Calls Tryz.prog 114 #[.pointer (some ⟨b,o,none⟩),.int .i64 p,.int .i64 g] w (aEM b o w (fF p g t)):=by
 obtain⟨A,c,hc,hf,hr⟩:=ht;have hb:b<w.heap.size:=lt_of_cell hc;have HR:=hZ hr;clear hr;go_enter Tryz.func114,Tryz.ntmps114;go_wp2_with fail
 have hW0:Below w.heap.size w ((w.alloc (.cells #[.int .i64 p] 3)).alloc (.cells #[.int .i64 g] 3)):=((Below.refl w.heap.size w).alloc (nR _) _).alloc (by simp) _;refine(aEJ A t.length c t _ w.heap.size (HR.out.below hW0) (by simp;omega) (by omega)).mono ?_;rintro e w1 ⟨v,rfl,ho,hb1⟩;simp only[World.size_alloc] at ho hb1;have hs1:w.heap.size+1+1<=w1.heap.size:=by have:=hb1.size;simp at this;omega
 have aKm:w1.cell? ⟨w.heap.size,0,none⟩=some (.int .i64 p):=by rw[hb1.cell (p:=⟨w.heap.size,0,none⟩) (by show w.heap.size<_;omega)];simp[go_sem]
 have aKl:w1.cell? ⟨w.heap.size+1,0,none⟩=some (.int .i64 g):=by rw[hb1.cell (p:=⟨w.heap.size+1,0,none⟩) (by show w.heap.size+1<_;omega)];simp[go_sem]
 have hP:=drop_pred p g w1 w.heap.size (w.heap.size+1) (w.heap.size+1+1) (by omega) (by omega) hs1 aKm aKl;have HO:=hZ ho;clear ho aKm aKl;go_wp2_with fail
 refine(Qb _ _ (enters_of Tryz.func154 (by kernel_rfl) rfl) (Ke p g) v t w1 (w.heap.size+1+1) HO.out hs1 (by omega) hP).mono ?_;rintro e w2 ⟨v2,rfl,ho2,hb2⟩;have hW:Below w.heap.size w w2:=(hW0.trans (hb1.mono (by omega))).trans (hb2.mono (by omega));have h3:w2.cell? ⟨b,o,none⟩=some (.slice A t.length c):=(hW.cell (p:=⟨b,o,none⟩) hb).trans hc;have h4:w2.frozen? ⟨b,o,none⟩=false:=(hW.frozen (p:=⟨b,o,none⟩) hb).trans hf;obtain⟨A2,c2,rfl,_,_,_⟩:=ho2.row qE;have rX:=hZ (ho2.gD (show w.heap.size<=w.heap.size+1+1 by omega));have HW:=hZ hW;clear ho2 hW hb1 hb2 hP HO HR hW0;go_wp2
 go_end0
 exact⟨rfl,Nw h3 h4 hb rX.out,_,Ao HW.out⟩
theorem Past.cell {B b o:Nat} {w w':World} (h:Past B b o w w') {g j:Nat} (hg:g<B) (hne:g≠b):w'.cell? ⟨g,j,none⟩=w.cell? ⟨g,j,none⟩:=by
 obtain⟨u,h⟩:=h;rw[h.cell (p:=⟨g,j,none⟩) hg];exact World.cell?_of_block (blk_setCell_other (λe=>hne e.symm))
theorem Xw {B:Nat} {w w':World} {p:Addr} {u v:Value} (h:Below B (w.setCell p u) w'):Below B (w.setCell p v) (w'.setCell p v):=
 ⟨h.os,h.tape,h.output,by have:=h.size;simpa[World.setCell] using this,λk hk=>by
   have h1:=h.block k hk;simp only[World.setCell,Array.getElem?_modify] at*;rw[h1];by_cases e:p.block=k
   ·simp only[e,if_true]
    cases w.heap[k]? with
    |none=>rfl
    |some o=>cases o<;>simp<;>cases p.spot<;>simp
   ·simp[e]⟩
theorem Past.store {B b o:Nat} {w w2 w':World} {v:Value} (h:Past B b o w w2) (h2:Below B w2 w'):Past B b o w (w'.setCell ⟨b,o,none⟩ v):=by
 obtain⟨u,h⟩:=h;exact⟨v,Xw (h.trans h2)⟩
theorem Past.unbox {b o:Nat} {w W:World} {ob:Obj} (hb:b<w.heap.size) (h:Past (w.heap.size+1) b o (w.alloc ob) W):Past w.heap.size b o w W:=by
 obtain⟨u,h⟩:=h;exact⟨u,(Ao ((Below.refl w.heap.size w).alloc (nR _) ob)).trans (h.mono (by omega))⟩
theorem Rw.setOther {α:Type} {f:α->List Value} {sz B g off n:Nat} {w:World} {u:Value} {xs:List α} {p:Addr} (h:Rw f sz w B (some ⟨g,off,none⟩) n xs) (hp:p.block≠g):Rw f sz (w.setCell p u) B (some ⟨g,off,none⟩) n xs:=
 ⟨h.1,h.2.1,λhn=>by
   obtain⟨b,o,e,hB,hc⟩:=h.2.2 hn;injection e with e;injection e with e1 e2;subst e1 e2;exact⟨g,off,rfl,hB,λi x hx j v hv=>(World.cell?_of_block (blk_setCell_other hp)).trans (hc i x hx j v hv)⟩⟩
theorem aEB (x:iO):∀u∈fC x,u.oneCell'=true:=by
 have:=aHB [x];simpa using this
def aEN (b o:Nat) (w:World) (t:List iO) (e:Ending) (w':World):Prop:=e=.returned (.tuple #[])/\Tl w' b o t/\(∃g,w.heap.size<=g/\∃off c n,w'.cell? ⟨b,o,none⟩=some (.slice (some ⟨g,off,none⟩) n c))/\Past w.heap.size b o w w'
theorem aIP (x:iO) (t:List iO) (b o:Nat) (w:World) (ht:Tl w b o t) (hn:t.length<=1000):
 Calls Tryz.prog 136 #[.pointer (some ⟨b,o,none⟩),.agg #[.int .i64 x.p,.int .i64 x.g,.int .i64 x.k,.int .i64 x.n]] w (aEN b o w (Fb (fF x.p x.g t++ [x]))):=by
 have hb:b<w.heap.size:=by obtain⟨A,c,hc,_⟩:=ht;exact lt_of_cell hc
 have HT:=hZ ht;clear ht;have hW0:Below w.heap.size w (w.alloc (.cells #[.int .i64 x.p,.int .i64 x.g,.int .i64 x.k,.int .i64 x.n] 210)):=(Below.refl w.heap.size w).alloc (nR _) _;have ht1:Tl (w.alloc (.cells #[.int .i64 x.p,.int .i64 x.g,.int .i64 x.k,.int .i64 x.n] 210)) b o t:=by
  obtain⟨A,c,hc,hf,hr⟩:=HT.out;exact⟨A,c,(hW0.cell (p:=⟨b,o,none⟩) hb).trans hc,(hW0.frozen (p:=⟨b,o,none⟩) hb).trans hf,hr.on hW0 (nR _)⟩
 have hd:=aCZ x.p x.g t b o _ ht1 hn;clear ht1 hW0;go_enter Tryz.func136,Tryz.ntmps136;go_wp2_with fail
 refine hd.mono ?_;clear hd;rintro e w2 ⟨rfl,htl,hpast⟩;simp only[World.size_alloc] at htl hpast;have c0:w2.cell? ⟨w.heap.size,0,none⟩=some (.int .i64 x.p):=by rw[hpast.cell (by omega) (by omega)];simp[go_sem]
 have c1:w2.cell? ⟨w.heap.size,1,none⟩=some (.int .i64 x.g):=by rw[hpast.cell (by omega) (by omega)];simp[go_sem]
 have c2:w2.cell? ⟨w.heap.size,2,none⟩=some (.int .i64 x.k):=by rw[hpast.cell (by omega) (by omega)];simp[go_sem]
 have c3:w2.cell? ⟨w.heap.size,3,none⟩=some (.int .i64 x.n):=by rw[hpast.cell (by omega) (by omega)];simp[go_sem]
 obtain⟨v,hv,hvf,_,hvo⟩:=htl;have hle:(fF x.p x.g t).length<=1000:=by have:=xB x.p x.g t;omega
 have HP:=hZ hpast;clear hpast;obtain⟨A2,c2',rfl,_,_,_⟩:=hvo.row qE;have HO:=hZ hvo;clear hvo;obtain⟨i0,hi,hz0,hz1,hz2⟩:=info_parts aHi;have hsz2:w.heap.size+1<=w2.heap.size:=by obtain⟨u,h⟩:=HP.out;have:=h.size;simpa[World.setCell] using this
 have hb2:b<w2.heap.size:=by omega
 by_cases h9:8<(fF x.p x.g t).length+1
 ·go_wp2
  go_region_law (refine yD rfl (.tmp 14) (.tmp 16) 60 rfl (w.heap.size+1) 210 i0 (.agg #[.int .i64 0,.int .i64 0,.int .i64 0,.int .i64 0]) 4 32 Tryz.underlying60 hi hz0 hz1 hz2 rfl (by decide) (.slice A2 (fF x.p x.g t).length c2') (fF x.p x.g t).length ((fF x.p x.g t).flatMap fC) (by simp[Act.eval]) (HO.out.below ((jY _ _).alloc (nR _) _) (nR _)) ⟨w2.heap.size,0,none⟩ 1 1 (fC x) (by simp[Act.eval]) rfl (λj u h=>qN (vs:=fC x) (W:=w2.drew) j u h) (aEB x) (by unfold maxLen;omega) (by omega) (by simp;omega) ?_;intro v' w' hown hgrow;obtain⟨g3,c3',rfl,hg3,hc3,hm3⟩:=zZ hown (by omega);have hB3:=(((Below.refl (w.heap.size+1) w2).alloc (by omega) (.cells (fC x).toArray 210)).trans (jY _ _)).trans (qL hgrow (HO.out.below ((jY _ _).alloc (nR _) _) (nR _)) (nR _) (by simp;omega));have HB3:=hZ hB3;have HOW:=hZ hown;have h3:w'.cell? ⟨b,o,none⟩=some (.slice A2 (fF x.p x.g t).length c2'):=(hB3.cell (p:=⟨b,o,none⟩) (by show b<_;omega)).trans hv;have h4:w'.frozen? ⟨b,o,none⟩=false:=(hB3.frozen (p:=⟨b,o,none⟩) (by show b<_;omega)).trans hvf;clear hB3 hgrow hown)
  all_goals
   have hc1:1<c3':=by omega
   have hc2:¬c3'=1:=by omega
   have hb3:b≠g3:=by omega
   clear c0 c1 c2 c3 hv hvf hi hz0 hz1 hz2;go_wp2
   go_end0
   refine⟨rfl,?_,⟨g3,by omega,?_⟩,((HP.out.store HB3.out).store (Below.refl _ _)).unbox hb⟩;rotate_left
   ·exact⟨4,c3' -1,_,pR (pR h3)⟩
   have ho:=xJ (ys:=[x]) (by simpa using HOW.out) (by simp);obtain⟨A4,c4,e4,_,_,hr4⟩:=ho.row qE;injection e4 with e5 e6 e7;subst e5;have hd:=hr4.drop 1;rw[Nat.zero_add] at hd;have hcut:Fb (fF x.p x.g t++ [x])=(fF x.p x.g t++ [x]).drop 1:=by unfold Fb;rw[if_pos (by simp;omega)]
   have hl:((fF x.p x.g t++ [x]).drop 1).length=(fF x.p x.g t).length:=by simp
   have hl2:(fF x.p x.g t++ [x]).length -1=(fF x.p x.g t).length:=by simp
   rw[hcut];refine⟨some ⟨g3,4,none⟩,c3' -1,?_,yO (yO h4),?_⟩
   ·rw[hl];exact pR (pR h3)
   ·rw[hl,<-hl2]
    refine Rw.any (B:=w'.heap.size) ((hd.setOther ?_).setOther ?_) ?_
    ·exact hb3
    ·exact hb3
    ·have e:∀(V:World) (p:Addr) (u:Value),(V.setCell p u).heap.size=V.heap.size:=λV p u=>by simp[World.setCell]
     rw[e,e];exact nR _
 ·go_wp2
  go_region_law (refine yD rfl (.tmp 14) (.tmp 16) 60 rfl (w.heap.size+1) 210 i0 (.agg #[.int .i64 0,.int .i64 0,.int .i64 0,.int .i64 0]) 4 32 Tryz.underlying60 hi hz0 hz1 hz2 rfl (by decide) (.slice A2 (fF x.p x.g t).length c2') (fF x.p x.g t).length ((fF x.p x.g t).flatMap fC) (by simp[Act.eval]) (HO.out.below ((jY _ _).alloc (nR _) _) (nR _)) ⟨w2.heap.size,0,none⟩ 1 1 (fC x) (by simp[Act.eval]) rfl (λj u h=>qN (vs:=fC x) (W:=w2.drew) j u h) (aEB x) (by unfold maxLen;omega) (by omega) (by simp;omega) ?_;intro v' w' hown hgrow;obtain⟨g3,c3',rfl,hg3,hc3,hm3⟩:=zZ hown (by omega);have hB3:=(((Below.refl (w.heap.size+1) w2).alloc (by omega) (.cells (fC x).toArray 210)).trans (jY _ _)).trans (qL hgrow (HO.out.below ((jY _ _).alloc (nR _) _) (nR _)) (nR _) (by simp;omega));have HB3:=hZ hB3;have HOW:=hZ hown;have h3:w'.cell? ⟨b,o,none⟩=some (.slice A2 (fF x.p x.g t).length c2'):=(hB3.cell (p:=⟨b,o,none⟩) (by show b<_;omega)).trans hv;have h4:w'.frozen? ⟨b,o,none⟩=false:=(hB3.frozen (p:=⟨b,o,none⟩) (by show b<_;omega)).trans hvf;clear hB3 hgrow hown)
  all_goals
   clear c0 c1 c2 c3 hv hvf hi hz0 hz1 hz2;go_wp2
   go_end0
   refine⟨rfl,?_,⟨g3,by omega,0,c3',_,pR h3⟩,(HP.out.store HB3.out).unbox hb⟩;have ho:=xJ (ys:=[x]) (by simpa using HOW.out) (by simp);have hcut:Fb (fF x.p x.g t++ [x])=fF x.p x.g t++ [x]:=by unfold Fb;rw[if_neg (by simp;omega)]
   rw[hcut];exact(Nw h3 h4 (by omega) ho).tl
end Go.Proofs.YtoogfmbojlpjaaaGreat
