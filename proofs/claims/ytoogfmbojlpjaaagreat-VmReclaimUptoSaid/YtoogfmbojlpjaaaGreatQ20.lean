/- Lemmas. -/
import Derived.Test.YtoogfmbojlpjaaaGreatQ12
import Derived.Test.YtoogfmbojlpjaaaGreatQ19
import Derived.Test.YtoogfmbojlpjaaaGreatQ2
import Derived.Laws.MakeOwn
import Derived.Test.YtoogfmbojlpjaaaGreatQ0
import Derived.Test.YtoogfmbojlpjaaaGreatQA
set_option maxRecDepth 100000
set_option maxHeartbeats 32000000
set_option linter.unusedVariables false
set_option linter.unusedSimpArgs false
namespace Go.Proofs.YtoogfmbojlpjaaaGreat
open Go.ChangeShapes Go.WideShapes Go.ChangeAt Go.RowKit Go.Joins
def aKc (g:Nat) (cb:Array Value) (p:eY->Bool) (base:Nat) (w:World):Prop:=∀(W:World) (x:eY),Below base w W->Calls Tryz.prog g (#[.agg #[.int .i64 x.r,.int .i64 x.k,.bool x.g,.bool x.s]]++cb) W λe w'=>e=.returned (.bool (p x))/\Below W.heap.size W w'
theorem aE2 (g:Nat) (cb:Array Value) (eg:∀args w,(callFunc g args).run Tryz.prog w=.ok (.enter g args) w) (p:eY->Bool) (w0 w:World) (b b0 base:Nat) (hg:aKc g cb p b0 w0) (h0:Below b0 w0 w) (hb0:b0<=base) (hb:b<base) (hbase:base<=w.heap.size) (hc:w.cell? ⟨b,0,none⟩=some (.func (.func g) #[] cb)):
 aBg 121 #[.pointer (some ⟨b,0,none⟩)] (λx=>p x.a) base w:=by
 intro W x hW;have h1:W.cell? ⟨b,0,none⟩=some (.func (.func g) #[] cb):=(hW.cell (p:=⟨b,0,none⟩) hb).trans hc;have hlt:b<W.heap.size:=by have:=hW.size;omega
 have hcall:=hg (W.alloc (.cells #[.int .i64 x.f,.int .i64 x.t,.int .i64 x.a.r,.int .i64 x.a.k,.bool x.a.g,.bool x.a.s] 99)) x.a ((h0.trans (hW.mono hb0)).trans ((aD _ _).mono (by have:=hW.size;omega)));clear hW hc hg h0;go_enter Tryz.func121,Tryz.ntmps121;go_wp2_with(go_at_fn g;refine hcall.mono ?_;rintro e w' ⟨rfl,hb'⟩)
 go_ret;exact⟨bH rfl,((Below.refl _ _).alloc (nR _) _).trans (hb'.mono (by simp))⟩
theorem aGK (g:Nat) (cb:Array Value) (eg:∀args w,(callFunc g args).run Tryz.prog w=.ok (.enter g args) w) (p:eY->Bool) (w:World) (hg:aKc g cb p w.heap.size w) (A:Option Addr) (n c:Nat) (xs:List aC) (a b:Int) (B:Nat) (hz:Rw fR 6 w B A n xs) (hB:B<=w.heap.size) (hbig:n<=1000000):
 Calls Tryz.prog 75 #[.slice A n c,.int .i64 a,.int .i64 b,.func (.func g) #[] cb] w λe w'=>e=.returned (.bool ((fA a b xs).any λx=>p x.a))/\Below w.heap.size w w':=by
 have hln:=hz.1;have hil:(fA a b xs).length<=1000000:=Nat.le_trans (Ri a b xs) (by omega);have hW0:Below w.heap.size w (w.alloc (.cells #[.func (.func g) #[] cb] 154)):=(Below.refl _ _).alloc (nR _) _;have hcut:=Jk A n c xs a b (w.alloc (.cells #[.func (.func g) #[] cb] 154)) B (hz.below (hW0.mono hB)) (by simp;omega) hbig;have HP:=hZ (λw1 h0 hs hb=>aE2 g cb eg p w w1 w.heap.size w.heap.size (w.heap.size+1) hg h0 (Nat.le_succ _) (Nat.lt_succ_self _) hs hb);have Ev:(w.alloc (.cells #[.func (.func g) #[] cb] 154)).cell? ⟨w.heap.size,0,none⟩=some (.func (.func g) #[] cb):=by simp[go_sem]
 have tT:=hZ Ev;have HW0:=hZ hW0;clear hg hz hln Ev hW0;generalize fA a b xs=il at*;go_enter Tryz.func75,Tryz.ntmps75;go_wp2_with(go_at_call 119;refine hcut.mono ?_;rintro e w1 ⟨vo,vi,rfl,ho,hi,hap,hb1⟩)
 simp only[World.size_alloc] at ho hi hb1;have hs1:w.heap.size+1<=w1.heap.size:=by have:=hb1.size;simpa using this
 have hP:=HP.out w1 (HW0.out.trans (hb1.mono (Nat.le_succ _))) hs1 ((hb1.cell (p:=⟨w.heap.size,0,none⟩) (Nat.lt_succ_self _)).trans tT.out);obtain⟨Ai,ci,rfl,hl1,hl2,hr⟩:=hi.row gZ;have hcon:=Jm _ _ (enters_of Tryz.func121 (by kernel_rfl) rfl) (λx=>p x.a) Ai il.length ci il w1 w1.heap.size (w.heap.size+1) hr (nR _) hs1 (by omega) hP;have HW1:=hZ (HW0.out.trans (hb1.mono (by omega)));clear hP hr ho hi hap hb1;go_wp2_with(go_at_call 120;refine hcon.mono ?_;rintro e w2 ⟨rfl,hb2⟩)
 go_ret;exact⟨bH rfl,HW1.out.trans (hb2.mono (by omega))⟩
theorem aLy (b:Nat) (k:Int) (w:World) (base:Nat) (hb:b<base) (hbs:base<=w.heap.size) (hc:w.cell? ⟨b,5,none⟩=some (.int .i64 k)):aKc 76 #[.pointer (some ⟨b,0,none⟩)] (λa=>decide (a.k=k)) base w:=by
 intro W x hW;have c1:W.cell? ⟨b,5,none⟩=some (.int .i64 k):=(hW.cell (p:=⟨b,5,none⟩) hb).trans hc;have l1:b<W.heap.size:=Nat.lt_of_lt_of_le hb (Nat.le_trans hbs hW.size);clear hc;go_enter Tryz.func76,Tryz.ntmps76;go_wp2;go_ret;exact⟨bH (by by_cases e:x.k=k<;>simp[e]),(Below.refl _ _).alloc (nR _) _⟩
theorem bN:(Tryz.prog.info? 35).map (·.size)=some 4:=by kernel_rfl
def Rv (w:World) (v:Value) (l:List aC):Prop:=∃A n c,v=.slice A n c/\Rw fR 6 w w.heap.size A n l/\n<=64
theorem Rv.below {w w':World} {v:Value} {l:List aC} (h:Rv w v l) (hb:Below w.heap.size w w'):Rv w' v l:=by
 obtain⟨A,n,c,e,h,hn⟩:=h;exact⟨A,n,c,e,h.on hb (nR _),hn⟩
def Ea (w:World) (r:List aC×bX) (e:Ending) (w':World):Prop:=∃u,e=.returned (.tuple #[u,r.2.v])/\Os fR 6 99 w' w.heap.size u r.1/\Below w.heap.size w w'
def nA (a:bX):Array Value:= #[.int .i64 a.err,.int .i64 a.value,.int .i64 a.fault,.int .i64 a.pos]
theorem bI (a:bX):(nA a).all (·.oneCell')=true:=by simp[nA,Value.oneCell']
theorem aV {w:World} {g:Nat} {a:bX} (h:Bx w g 35 (nA a)):(loadVar 35 ⟨g,0,none⟩).run Tryz.prog w=.ok a.v w:=
 Yy Tryz.underlying35 rfl bN h (Sub.all _) rfl
theorem Os.kQ {α:Type} {f:α->List Value} {sz:Nat} {T:TypeId} {w:World} {base g:Nat} {v:Value} {xs:List α} (h:Os f sz T w base v xs) (hg:g<base) (cs:Array Value):Os f sz T (w.setRow g cs) base v xs:=by
 obtain⟨h1,h|⟨q,cap,cur,e,hq,hh,hn,hm,hz,hx⟩⟩:=h
 ·exact⟨h1,.inl h⟩
 ·exact⟨h1,.inr ⟨q,cap,cur,e,hq,(setRow_other w g q cs (by omega)).trans hh,hn,hm,hz,hx⟩⟩
theorem aT {fn:Func} {p u:Tmp} {ty:TypeId} (h:fn.results= #[.tmp u,.cell p ty]) (tmps:Array Value) (P:Program) (w:World):
 (results fn tmps).run P w=((asAddr (tmps.getD p undef)).run P w).andThen λa w₁=>((loadVar ty a).run P w₁).andThen λv w₂=>.ok (.tuple #[tmps.getD u undef,v]) w₂:=by
 simp only[results,h];simp[Sem.run_bind,Result.andThen]
theorem jX {w W:World} {g:Nat} {z:Array Value} {r:List aC×bX} {u:Value} (hx:Bx W g 35 z) (ho:Os fR 6 99 W w.heap.size u r.1) (hb:Below w.heap.size w W) (hg:w.heap.size<=g) (hu:∀k,u.ownBlock=some k->k≠g):Ea w r (.returned (.tuple #[u,r.2.v])) (W.setRow g (nA r.2)):=by
 refine⟨u,rfl,?_,below_setRow hb hg _⟩;obtain⟨h1,h|⟨q,cap,cur,e,hq,hh,hn,hm,hz,hx'⟩⟩:=ho
 ·exact⟨h1,.inl h⟩
 ·exact⟨h1,.inr ⟨q,cap,cur,e,hq,(setRow_other W g q _ (hu q (by rw[e];rfl))).trans hh,hn,hm,hz,hx'⟩⟩
structure bD (S:Nat->Prop) (w w':World):Prop where
 os:w'.os=w.os
 tape:w'.tape=w.tape
 output:w'.output=w.output
 size:w.heap.size<=w'.heap.size
 block:∀k,k<w.heap.size->¬S k->w'.heap[k]? =w.heap[k]?
theorem bD.refl (S:Nat->Prop) (w:World):bD S w w:=⟨rfl,rfl,rfl,nR _,λ_ _ _=>rfl⟩
theorem bD.of {S:Nat->Prop} {w w':World} (h:Below w.heap.size w w'):bD S w w':=⟨h.os,h.tape,h.output,h.size,λk hk _=>h.block k hk⟩
theorem bD.trans {S S':Nat->Prop} {a b c:World} (h:bD S a b) (k:bD S' b c) (hs:∀i,i<a.heap.size->S' i->S i):bD S a c:=
 ⟨k.os.trans h.os,k.tape.trans h.tape,k.output.trans h.output,Nat.le_trans h.size k.size,λi hi hn=>(k.block i (Nat.lt_of_lt_of_le hi h.size) (λh'=>hn (hs i hi h'))).trans (h.block i hi hn)⟩
theorem bD.below {S:Nat->Prop} {w w':World} {B:Nat} (h:bD S w w') (hB:∀k,S k->B<=k) (hw:B<=w.heap.size):Below B w w':=
 ⟨h.os,h.tape,h.output,h.size,λk hk=>h.block k (by omega) (λhs=>by have:=hB k hs;omega)⟩
theorem bD.row {S:Nat->Prop} {a b:World} (h:bD S a b) {g:Nat} (hg:S g\/a.heap.size<=g) (cs:Array Value):bD S a (b.setRow g cs):=
 ⟨h.os,h.tape,h.output,by simpa[World.setRow] using h.size,λk hk hn=>(setRow_other b g k cs (by rintro rfl;rcases hg with hg|hg;exact hn hg;omega)).trans (h.block k hk hn)⟩
theorem bD.cell {S:Nat->Prop} {a b:World} (h:bD S a b) {g:Nat} (hg:S g\/a.heap.size<=g) (i:Nat) (v:Value):bD S a (b.setCell ⟨g,i,none⟩ v):=
 ⟨h.os,h.tape,h.output,by simpa[World.setCell] using h.size,λk hk hn=>(Below.heap_setCell b ⟨g,i,none⟩ v k (by rintro rfl;rcases hg with hg|hg;exact hn hg;omega)).trans (h.block k hk hn)⟩
def Rt (w:World) (v:Value) (l:List aC):Prop:=∃A n c,v=.slice A n c/\l.length=n/\n<=64/\(0<n->∃b off cur,A=some ⟨b,off,none⟩/\Bx w b 99 cur/\∀i x,l[i]? =some x->∀j u,(fR x)[j]? =some u->cur[off+i*6+j]? =some u)
theorem Rt.rv {w:World} {v:Value} {l:List aC} (h:Rt w v l):Rv w v l:=by
 obtain⟨A,n,c,e,hl,hn,hc⟩:=h;refine⟨A,n,c,e,⟨hl,by unfold maxLen;omega,λh0=> ?_⟩,hn⟩;obtain⟨b,off,cur,e',hb,hx⟩:=hc h0;exact⟨b,off,e',hb.lt,λi x hi j u hu=>by rw[hb.cell];exact hx i x hi j u hu⟩
theorem Rt.keep {w w':World} {v:Value} {l:List aC} (h:Rt w v l) (hk:∀b cur,Bx w b 99 cur->Bx w' b 99 cur):Rt w' v l:=by
 obtain⟨A,n,c,e,hl,hn,hc⟩:=h;refine⟨A,n,c,e,hl,hn,λh0=> ?_⟩;obtain⟨b,off,cur,e',hb,hx⟩:=hc h0;exact⟨b,off,cur,e',hk b cur hb,hx⟩
theorem Rt.below {w w':World} {v:Value} {l:List aC} (h:Rt w v l) (hb:Below w.heap.size w w'):Rt w' v l:=h.keep λb cur h=>h.below hb
theorem gP {w:World} {b g:Nat} {T T':TypeId} {cur cs:Array Value} (h:Bx w b T cur) (hx:Bx w g T' cs) (ht:T≠T'):¬b=g:=by
 rintro rfl;unfold Bx at h hx;rw[h] at hx;injection hx with hx;injection hx with _ hx;exact ht hx
theorem Rt.of {w:World} {base:Nat} {v:Value} {l:List aC} (h:Os fR 6 99 w base v l) (hn:l.length<=64):Rt w v l:=by
 obtain⟨A,c,e,_,_,hr⟩:=h.row gZ;refine⟨A,l.length,c,e,rfl,hn,λh0=> ?_⟩;obtain⟨b,off,e2,hb,hc⟩:=hr.2.2 h0;obtain⟨h1,h|⟨q,cap,cur,e',hq,hh,_,_,_,hx⟩⟩:=h
 ·rw[h.2] at h0;exact absurd h0 (Nat.lt_irrefl 0)
 ·rw[e,e2] at e'
  injection e' with e3 e4 e5;injection e3 with e3;injection e3 with e3 e6;subst e3 e6;exact⟨b,0,cur,e2,hh,λi x hi j u hu=>by rw[<-Bx.cell (T:=99) hh];exact hc i x hi j u hu⟩
end Go.Proofs.YtoogfmbojlpjaaaGreat
namespace Go.Proofs.YtoogfmbojlpjaaaGreat
open Go.RowKit
theorem bD.more {S:Nat->Prop} {a b c:World} (h:bD S a b) (k:Below b.heap.size b c):bD S a c:=h.trans (bD.of (S:=S) k) λ_ _ h=>h
def kN (A:Option Addr) (b:Nat):Prop:=A=some ⟨b,0,none⟩
theorem xL {S:Nat->Prop} {g:Nat} (hg:S g):∀(vs:List Value) (a:Nat) (w:World),bD S w (w.setCells g a vs)
 | [],_,_=>bD.refl _ _
 |v::vs,a,w=>((bD.refl S w).cell (.inl hg) a v).trans (xL hg vs (a+1) _) λ_ _ h=>h
def dO (zs:List Int) (a:Nat) (v:Int):Nat->List Int
 |0=>zs
 |n+1=>(dO zs a v n).set (a+n) (v/((256^n:Nat):Int)%256)
theorem aMn (A:Option Addr) (len c:Nat) (zs:List Int) (a:Nat) (v:Int) (w:World) (base:Nat) (ho:Own .u8 5 w base A len c zs) (hn:len<=140737488355328) (ha:a+1<=len):
 Calls Tryz.prog 183 #[.slice A len c,.int .i64 a,.int .i64 1,.int .i64 v] w λe w'=>e=.returned (.tuple #[])/\Own .u8 5 w' base A len c (dO zs a v 1)/\bD (kN A) w w':=by
 obtain⟨gb,cur,rfl,hg,hh,lX⟩:=ho.2.2.2 (by omega);have c0:w.cell? ⟨gb,a,none⟩=some (.int .u8 (zs[a]?.getD 0)):=by rw[dW hh];exact lX (a) (by omega)
 have f0:w.frozen? ⟨gb,a,none⟩=false:=gQ hh (a);have HO:=hZ ho;have HH:=hZ hh;have HC:=hZ lX;clear ho hh lX;have hp:dO zs a v 1=(zs.set a (v%256)):=by simp[dO]
 have HP:=hZ hp;clear hp;go_enter Tryz.func183,Tryz.ntmps183;go_wp2;refine wp_loop_rounds 2 ?_;repeat any_goals (rw[rounds_succ];go_wp2)
 go_end0
 exact⟨rfl,by rw[HP.out];exact(HO.out.wT (i:=a) (x:=v%256) (by omega)),((bD.refl _ _).cell (.inl (show kN (some ⟨gb,0,none⟩) gb from rfl)) _ _)⟩
theorem aMm (A:Option Addr) (len c:Nat) (zs:List Int) (a:Nat) (v:Int) (w:World) (base:Nat) (ho:Own .u8 5 w base A len c zs) (hn:len<=140737488355328) (ha:a+2<=len):
 Calls Tryz.prog 183 #[.slice A len c,.int .i64 a,.int .i64 2,.int .i64 v] w λe w'=>e=.returned (.tuple #[])/\Own .u8 5 w' base A len c (dO zs a v 2)/\bD (kN A) w w':=by
 obtain⟨gb,cur,rfl,hg,hh,lX⟩:=ho.2.2.2 (by omega);have c0:w.cell? ⟨gb,a,none⟩=some (.int .u8 (zs[a]?.getD 0)):=by rw[dW hh];exact lX (a) (by omega)
 have f0:w.frozen? ⟨gb,a,none⟩=false:=gQ hh (a);have c1:w.cell? ⟨gb,a+1,none⟩=some (.int .u8 (zs[a+1]?.getD 0)):=by rw[dW hh];exact lX (a+1) (by omega)
 have f1:w.frozen? ⟨gb,a+1,none⟩=false:=gQ hh (a+1);have HO:=hZ ho;have HH:=hZ hh;have HC:=hZ lX;clear ho hh lX;have hp:dO zs a v 2=((zs.set a (v%256)).set (a+1) (v/256%256)):=by simp[dO]
 have HP:=hZ hp;clear hp;go_enter Tryz.func183,Tryz.ntmps183;go_wp2;refine wp_loop_rounds 3 ?_;repeat any_goals (rw[rounds_succ];go_wp2)
 go_end0
 exact⟨rfl,by rw[HP.out];exact((HO.out.wT (i:=a) (x:=v%256) (by omega)).wT (i:=(a+1)) (x:=v/256%256) (by omega)),(((bD.refl _ _).cell (.inl (show kN (some ⟨gb,0,none⟩) gb from rfl)) _ _).cell (.inl (show kN (some ⟨gb,0,none⟩) gb from rfl)) _ _)⟩
theorem aMl (A:Option Addr) (len c:Nat) (zs:List Int) (a:Nat) (v:Int) (w:World) (base:Nat) (ho:Own .u8 5 w base A len c zs) (hn:len<=140737488355328) (ha:a+3<=len):
 Calls Tryz.prog 183 #[.slice A len c,.int .i64 a,.int .i64 3,.int .i64 v] w λe w'=>e=.returned (.tuple #[])/\Own .u8 5 w' base A len c (dO zs a v 3)/\bD (kN A) w w':=by
 obtain⟨gb,cur,rfl,hg,hh,lX⟩:=ho.2.2.2 (by omega);have c0:w.cell? ⟨gb,a,none⟩=some (.int .u8 (zs[a]?.getD 0)):=by rw[dW hh];exact lX (a) (by omega)
 have f0:w.frozen? ⟨gb,a,none⟩=false:=gQ hh (a);have c1:w.cell? ⟨gb,a+1,none⟩=some (.int .u8 (zs[a+1]?.getD 0)):=by rw[dW hh];exact lX (a+1) (by omega)
 have f1:w.frozen? ⟨gb,a+1,none⟩=false:=gQ hh (a+1);have c2:w.cell? ⟨gb,a+2,none⟩=some (.int .u8 (zs[a+2]?.getD 0)):=by rw[dW hh];exact lX (a+2) (by omega)
 have f2:w.frozen? ⟨gb,a+2,none⟩=false:=gQ hh (a+2);have HO:=hZ ho;have HH:=hZ hh;have HC:=hZ lX;clear ho hh lX;have hp:dO zs a v 3=(((zs.set a (v%256)).set (a+1) (v/256%256)).set (a+2) (v/65536%256)):=by simp[dO]
 have HP:=hZ hp;clear hp;go_enter Tryz.func183,Tryz.ntmps183;go_wp2;refine wp_loop_rounds 4 ?_;repeat any_goals (rw[rounds_succ];go_wp2)
 go_end0
 exact⟨rfl,by rw[HP.out];exact(((HO.out.wT (i:=a) (x:=v%256) (by omega)).wT (i:=(a+1)) (x:=v/256%256) (by omega)).wT (i:=(a+2)) (x:=v/65536%256) (by omega)),((((bD.refl _ _).cell (.inl (show kN (some ⟨gb,0,none⟩) gb from rfl)) _ _).cell (.inl (show kN (some ⟨gb,0,none⟩) gb from rfl)) _ _).cell (.inl (show kN (some ⟨gb,0,none⟩) gb from rfl)) _ _)⟩
theorem aMk (A:Option Addr) (len c:Nat) (zs:List Int) (a:Nat) (v:Int) (w:World) (base:Nat) (ho:Own .u8 5 w base A len c zs) (hn:len<=140737488355328) (ha:a+4<=len):
 Calls Tryz.prog 183 #[.slice A len c,.int .i64 a,.int .i64 4,.int .i64 v] w λe w'=>e=.returned (.tuple #[])/\Own .u8 5 w' base A len c (dO zs a v 4)/\bD (kN A) w w':=by
 obtain⟨gb,cur,rfl,hg,hh,lX⟩:=ho.2.2.2 (by omega);have c0:w.cell? ⟨gb,a,none⟩=some (.int .u8 (zs[a]?.getD 0)):=by rw[dW hh];exact lX (a) (by omega)
 have f0:w.frozen? ⟨gb,a,none⟩=false:=gQ hh (a);have c1:w.cell? ⟨gb,a+1,none⟩=some (.int .u8 (zs[a+1]?.getD 0)):=by rw[dW hh];exact lX (a+1) (by omega)
 have f1:w.frozen? ⟨gb,a+1,none⟩=false:=gQ hh (a+1);have c2:w.cell? ⟨gb,a+2,none⟩=some (.int .u8 (zs[a+2]?.getD 0)):=by rw[dW hh];exact lX (a+2) (by omega)
 have f2:w.frozen? ⟨gb,a+2,none⟩=false:=gQ hh (a+2);have c3:w.cell? ⟨gb,a+3,none⟩=some (.int .u8 (zs[a+3]?.getD 0)):=by rw[dW hh];exact lX (a+3) (by omega)
 have f3:w.frozen? ⟨gb,a+3,none⟩=false:=gQ hh (a+3);have HO:=hZ ho;have HH:=hZ hh;have HC:=hZ lX;clear ho hh lX;have hp:dO zs a v 4=((((zs.set a (v%256)).set (a+1) (v/256%256)).set (a+2) (v/65536%256)).set (a+3) (v/16777216%256)):=by simp[dO]
 have HP:=hZ hp;clear hp;go_enter Tryz.func183,Tryz.ntmps183;go_wp2;refine wp_loop_rounds 5 ?_;repeat any_goals (rw[rounds_succ];go_wp2)
 go_end0
 exact⟨rfl,by rw[HP.out];exact((((HO.out.wT (i:=a) (x:=v%256) (by omega)).wT (i:=(a+1)) (x:=v/256%256) (by omega)).wT (i:=(a+2)) (x:=v/65536%256) (by omega)).wT (i:=(a+3)) (x:=v/16777216%256) (by omega)),(((((bD.refl _ _).cell (.inl (show kN (some ⟨gb,0,none⟩) gb from rfl)) _ _).cell (.inl (show kN (some ⟨gb,0,none⟩) gb from rfl)) _ _).cell (.inl (show kN (some ⟨gb,0,none⟩) gb from rfl)) _ _).cell (.inl (show kN (some ⟨gb,0,none⟩) gb from rfl)) _ _)⟩
theorem aIu (A:Option Addr) (len c:Nat) (zs:List Int) (a:Nat) (n v:Int) (w:World) (base:Nat) (ho:Own .u8 5 w base A len c zs) (hn:len<=140737488355328) (n1:1<=n) (n4:n<=4) (ha:(a:Int)+n<=(len:Int)):
 Calls Tryz.prog 183 #[.slice A len c,.int .i64 a,.int .i64 n,.int .i64 v] w λe w'=>e=.returned (.tuple #[])/\Own .u8 5 w' base A len c (dO zs a v n.toNat)/\bD (kN A) w w':=by
 have hc:n=1\/n=2\/n=3\/n=4:=by omega
 rcases hc with rfl|rfl|rfl|rfl
 ·exact aMn A len c zs a v w base ho hn (by omega)
 ·exact aMm A len c zs a v w base ho hn (by omega)
 ·exact aMl A len c zs a v w base ho hn (by omega)
 ·exact aMk A len c zs a v w base ho hn (by omega)
theorem aK2 (A:Option Addr) (len c:Nat) (p n v:Int) (w:World) (hn:len<=140737488355328) (h:n<1\/4<n\/p<0\/(1<=n/\n<=4/\(len:Int) -n<p)):
 Calls Tryz.prog 175 #[.slice A len c,.int .i64 p,.int .i64 n,.int .i64 v] w λe w'=>e=.returned (.bool false)/\w'=w:=by
 rcases h with h|h|h|⟨g1,g2,h⟩
 ·go_enter Tryz.func175,Tryz.ntmps175
  go_wp2
  all_goals go_ret
  all_goals exact⟨rfl,rfl⟩
 ·go_enter Tryz.func175,Tryz.ntmps175
  go_wp2
  all_goals go_ret
  all_goals exact⟨rfl,rfl⟩
 ·go_enter Tryz.func175,Tryz.ntmps175
  go_wp2
  all_goals go_ret
  all_goals exact⟨rfl,rfl⟩
 ·have hd:decide (p<=(len:Int) -n)=false:=by simp;omega
  go_enter Tryz.func175,Tryz.ntmps175;go_wp2
  all_goals go_ret
  all_goals exact⟨rfl,rfl⟩
theorem aIt (A:Option Addr) (len c:Nat) (zs:List Int) (a:Nat) (n v:Int) (w:World) (base:Nat) (ho:Own .u8 5 w base A len c zs) (hn:len<=140737488355328) (n1:1<=n) (n4:n<=4) (ha:(a:Int)+n<=(len:Int)):
 Calls Tryz.prog 175 #[.slice A len c,.int .i64 a,.int .i64 n,.int .i64 v] w λe w'=>e=.returned (.bool true)/\Own .u8 5 w' base A len c (dO zs a v n.toNat)/\bD (kN A) w w':=by
 have hd:decide ((a:Int)<=(len:Int) -n)=true:=by simp;omega
 have HO:=hZ ho;clear ho;go_enter Tryz.func175,Tryz.ntmps175;go_wp2_with(first|(go_at_call 183;refine(aIu A len c zs a n v _ base HO.out hn n1 n4 ha).mono ?_;rintro e w' ⟨rfl,ho,hb⟩;have HQ:=hZ ho;clear ho)|go_in)
 go_ret;exact⟨rfl,HQ.out,hb⟩
def Mc (len:Nat) (f k:Int):Int:=if 0<=f/\f<64/\0<=k/\k<8/\64*f+4*k+4<=len then 64*f+4*k else -1
def lJ (len:Nat) (f k:Int):Prop:=0<=f/\f<64/\0<=k/\k<8/\64*f+4*k+4<=len
theorem Y6 {len:Nat} {f k:Int} (h:lJ len f k):Mc len f k=64*f+4*k:=by unfold Mc;exact if_pos h
theorem aMw {len:Nat} {f k:Int} (h:¬lJ len f k):Mc len f k= -1:=by unfold Mc;exact if_neg h
theorem Y7 {len:Nat} {f k:Int} :Mc len f k<0↔¬lJ len f k:=by
 by_cases h:lJ len f k
 ·rw[Y6 h];unfold lJ at*;omega
 ·rw[aMw h];simp[h]
def Ry (zs:List Int) (f k:Int):Int:=wL zs (Mc zs.length f k) 4
def mO (zs:List Int) (f k:Int):Int:=if Mc zs.length f k<0 then 2 else Eh (Ry zs f k)
def pG (zs:List Int) (f k:Int):Int:=if Mc zs.length f k<0 then 0 else Ma (Ry zs f k)
def rH (zs:List Int) (f k:Int):Int:=if Mc zs.length f k<0 then 0 else Eg (Ry zs f k)
theorem aOe {zs:List Int} {f k:Int} (h:¬lJ zs.length f k):mO zs f k=2/\pG zs f k=0/\rH zs f k=0:=by
 have:=Y7.2 h;unfold mO pG rH;rw[if_pos this,if_pos this,if_pos this];exact⟨rfl,rfl,rfl⟩
theorem aHT {zs:List Int} {f k:Int} (h:lJ zs.length f k):Bb zs (64*f+4*k) 4=0/\mO zs f k=Eh (wL zs (64*f+4*k) 4)/\pG zs f k=Ma (wL zs (64*f+4*k) 4)/\rH zs f k=Eg (wL zs (64*f+4*k) 4):=by
 have h1:=Y6 h;have h2:¬Mc zs.length f k<0:=by rw[h1];unfold lJ at h;omega
 refine⟨by unfold Bb;unfold lJ at h;rw[if_neg (by omega)],?_,?_,?_⟩
 ·unfold mO Ry;rw[if_neg h2,h1]
 ·unfold pG Ry;rw[if_neg h2,h1]
 ·unfold rH Ry;rw[if_neg h2,h1]
theorem aMd (A:Option Addr) (len c:Nat) (zs:List Int) (f k:Int) (w:World) (B:Nat) (hz:Row .u8 w B A len zs) (hB:B<=w.heap.size) (hb:Bytes zs) (hn:len<=140737488355328) (h:f<0\/64<=f\/(0<=f/\f<64/\k<0)\/(0<=f/\f<64/\8<=k)\/(0<=f/\f<64/\0<=k/\k<8/\(len:Int)<64*f+4*k+4)):
 Calls Tryz.prog 126 #[.slice A len c,.int .i64 f,.int .i64 k] w λe w'=>e=.returned (.tuple #[.agg #[.int .i64 0,.int .i64 0],.int .i64 2])/\Below w.heap.size w w':=by
 have HL:=hZ hz.1;have HZ:=hZ hz;have HB:=hZ hb;clear hz hb;rcases h with h|h|⟨h0,h1,h⟩|⟨h0,h1,h⟩|⟨h0,h1,h2,h3,h⟩
 ·have e:Hid (fD f= -1):=hZ (by unfold fD;rw[if_pos (by omega)])
  go_enter Tryz.func126,Tryz.ntmps126;go_wp2_with(go_at_call 106;refine(kI f _).mono ?_;rintro e' w' ⟨rfl,hw⟩;rw[hw,e.out];clear hw)
  refine bodyPost_ret (v:=.tuple #[.agg #[.int .i64 0,.int .i64 0],.int .i64 2]) (by simp[results,Tryz.results126,go_sem]) rfl ⟨rfl,by go_grown⟩
 ·have e:Hid (fD f= -1):=hZ (by unfold fD;rw[if_pos (by omega)])
  go_enter Tryz.func126,Tryz.ntmps126;go_wp2_with(go_at_call 106;refine(kI f _).mono ?_;rintro e' w' ⟨rfl,hw⟩;rw[hw,e.out];clear hw)
  refine bodyPost_ret (v:=.tuple #[.agg #[.int .i64 0,.int .i64 0],.int .i64 2]) (by simp[results,Tryz.results126,go_sem]) rfl ⟨rfl,by go_grown⟩
 ·have e:Hid (fD f=f*64):=hZ (by unfold fD;rw[if_neg (by omega)])
  go_enter Tryz.func126,Tryz.ntmps126;go_wp2_with(go_at_call 106;refine(kI f _).mono ?_;rintro e' w' ⟨rfl,hw⟩;rw[hw,e.out];clear hw)
  all_goals refine bodyPost_ret (v:=.tuple #[.agg #[.int .i64 0,.int .i64 0],.int .i64 2]) (by simp[results,Tryz.results126,go_sem]) rfl ⟨rfl,by go_grown⟩
 ·have e:Hid (fD f=f*64):=hZ (by unfold fD;rw[if_neg (by omega)])
  go_enter Tryz.func126,Tryz.ntmps126;go_wp2_with(go_at_call 106;refine(kI f _).mono ?_;rintro e' w' ⟨rfl,hw⟩;rw[hw,e.out];clear hw)
  all_goals refine bodyPost_ret (v:=.tuple #[.agg #[.int .i64 0,.int .i64 0],.int .i64 2]) (by simp[results,Tryz.results126,go_sem]) rfl ⟨rfl,by go_grown⟩
 ·have e:Hid (fD f=f*64):=hZ (by unfold fD;rw[if_neg (by omega)])
  have hE:Hid (Bb zs (f*64+4*k) 4=2):=hZ (by unfold Bb;rw[HL.out,if_pos (by omega)]);go_enter Tryz.func126,Tryz.ntmps126;go_wp2_with(first
   |(go_at_call 106;refine(kI f _).mono ?_;rintro e' w' ⟨rfl,hw⟩;rw[hw,e.out];clear hw)
   |(go_at_call 160;refine(aBY A len c zs (f*64+4*k) 4 _ B (HZ.out.below ((Below.refl _ _).alloc hB _)) HB.out hn).mono ?_;rintro e' w' ⟨rfl,hw⟩;rw[hw,hE.out];clear hw))
  all_goals refine bodyPost_ret (v:=.tuple #[.agg #[.int .i64 0,.int .i64 0],.int .i64 2]) (by simp[results,Tryz.results126,go_sem]) rfl ⟨rfl,by go_grown⟩
theorem aKL (A:Option Addr) (len c:Nat) (zs:List Int) (f k:Int) (w:World) (B:Nat) (hz:Row .u8 w B A len zs) (hB:B<=w.heap.size) (hb:Bytes zs) (hn:len<=140737488355328) (h0:0<=f) (h1:f<64) (h2:0<=k) (h3:k<8) (hE:Hid (Bb zs (f*64+4*k) 4=0)) (v:Int) (hV:Hid (wL zs (f*64+4*k) 4=v)):
 Calls Tryz.prog 126 #[.slice A len c,.int .i64 f,.int .i64 k] w λe w'=>e=.returned (.tuple #[.agg #[.int .i64 (Ma v),.int .i64 (Eg v)],.int .i64 (Eh v)])/\Below w.heap.size w w':=by
 have HZ:=hZ hz;have HB:=hZ hb;have e:Hid (fD f=f*64):=hZ (by unfold fD;rw[if_neg (by omega)]);clear hz hb;go_enter Tryz.func126,Tryz.ntmps126;go_wp2_with(first
  |(go_at_call 106;refine(kI f _).mono ?_;rintro e' w' ⟨rfl,hw⟩;rw[hw,e.out];clear hw)
  |(go_at_call 160;refine(aBY A len c zs (f*64+4*k) 4 _ B (HZ.out.below ((Below.refl _ _).alloc hB _)) HB.out hn).mono ?_;rintro e' w' ⟨rfl,hw⟩;rw[hw,hE.out,hV.out];clear hw)
  |(go_at_call 161;refine(aEZ v _).mono ?_;rintro e' w1 ⟨rfl,hb1⟩;obtain⟨hc1,hf1⟩:=wO hb1;have hz1:w.heap.size<w1.heap.size:=(by have:=hb1.size;simp at this;omega)))
 refine bodyPost_ret (v:=.tuple #[.agg #[.int .i64 (Ma v),.int .i64 (Eg v)],.int .i64 (Eh v)]) (by simp[results,Tryz.results126,go_sem,hc1]) rfl ⟨rfl,?_⟩;simp only[World.size_alloc] at hb1;exact(((((Below.refl _ _).alloc (nR _) _).trans (hb1.mono (by omega))).setCell (nR _) _).setCell (nR _) _)
theorem aD3 (A:Option Addr) (len c:Nat) (zs:List Int) (f k:Int) (w:World) (B:Nat) (hz:Row .u8 w B A len zs) (hB:B<=w.heap.size) (hb:Bytes zs) (hn:len<=140737488355328):
 Calls Tryz.prog 126 #[.slice A len c,.int .i64 f,.int .i64 k] w λe w'=>e=.returned (.tuple #[.agg #[.int .i64 (pG zs f k),.int .i64 (rH zs f k)],.int .i64 (mO zs f k)])/\Below w.heap.size w w':=by
 have hl:=hz.1;by_cases h:lJ zs.length f k
 ·obtain⟨e1,e2,e3,e4⟩:=aHT h
  rw[e2,e3,e4];unfold lJ at h;have e:64*f+4*k=f*64+4*k:=by omega
  rw[e] at e1⊢;exact aKL A len c zs f k w B hz hB hb hn h.1 h.2.1 h.2.2.1 h.2.2.2.1 (hZ e1) _ (hZ rfl)
 ·obtain⟨e2,e3,e4⟩:=aOe h
  rw[e2,e3,e4];unfold lJ at h;exact aMd A len c zs f k w B hz hB hb hn (by omega)
theorem aKH (v:Int):0<=Eg v/\Eg v<64:=by
 unfold Eg;split
 ·rename_i h
  unfold cB at h;split at h
  ·cases h
  ·split at h
   ·cases h
   ·omega
 ·omega
theorem aMc (v:Int):Eh v=0\/Eh v=1:=by unfold Eh;split<;>simp
theorem aL3 (zs:List Int) (f k:Int):0<=rH zs f k/\rH zs f k<64:=by
 unfold rH;split
 ·omega
 ·exact aKH _
def aG (zs:List Int) (root page:Int):Int:=
 if page<0\/64<=page then 2 else if mO zs root (page/8)≠0 then mO zs root (page/8) else if pG zs root (page/8)=0 then 3 else if pG zs root (page/8)≠1 then 1 else 0
def aK (zs:List Int) (root page:Int):Int:=if aG zs root page=0 then rH zs root (page/8) else 0
theorem aAw (zs:List Int) (root page:Int):0<=aK zs root page/\aK zs root page<64:=by
 unfold aK;split
 ·exact aL3 _ _ _
 ·omega
def lI (zs:List Int) (root page:Int):Int:=if aG zs root page=3 then 0 else if aG zs root page≠0 then aG zs root page else mO zs (aK zs root page) (page%8)
def j6 (zs:List Int) (root page:Int):Int:=if aG zs root page=0 then pG zs (aK zs root page) (page%8) else 0
def j5 (zs:List Int) (root page:Int):Int:=if aG zs root page=0 then rH zs (aK zs root page) (page%8) else 0
theorem Ws (zs:List Int) (root page:Int):
 (aG zs root page=2/\aK zs root page=0/\(page<0\/64<=page))\/
 (0<=page/\page<64/\((mO zs root (page/8)≠0/\aG zs root page=mO zs root (page/8)/\aK zs root page=0)\/(mO zs root (page/8)=0/\pG zs root (page/8)=0/\aG zs root page=3/\aK zs root page=0)\/
   (mO zs root (page/8)=0/\pG zs root (page/8)≠0/\pG zs root (page/8)≠1/\aG zs root page=1/\aK zs root page=0)\/(mO zs root (page/8)=0/\pG zs root (page/8)=1/\aG zs root page=0/\aK zs root page=rH zs root (page/8)))):=by
 by_cases h:page<0\/64<=page
 ·have:aG zs root page=2:=by unfold aG;rw[if_pos h]
  exact .inl ⟨this,by unfold aK;rw[if_neg (by omega)],h⟩
 ·refine .inr ⟨by omega,by omega,?_⟩
  by_cases h1:mO zs root (page/8)≠0
  ·have:aG zs root page=mO zs root (page/8):=by unfold aG;rw[if_neg h,if_pos h1]
   exact .inl ⟨h1,this,by unfold aK;rw[if_neg (by omega)]⟩
  ·by_cases h2:pG zs root (page/8)=0
   ·have:aG zs root page=3:=by unfold aG;rw[if_neg h,if_neg h1,if_pos h2]
    exact .inr (.inl ⟨by omega,h2,this,by unfold aK;rw[if_neg (by omega)]⟩)
   ·by_cases h3:pG zs root (page/8)=1
    ·have:aG zs root page=0:=by unfold aG;rw[if_neg h,if_neg h1,if_neg h2,if_neg (by omega)]
     exact .inr (.inr (.inr ⟨by omega,h3,this,by unfold aK;rw[if_pos this]⟩))
    ·have:aG zs root page=1:=by unfold aG;rw[if_neg h,if_neg h1,if_neg h2,if_pos h3]
     exact .inr (.inr (.inl ⟨by omega,h2,h3,this,by unfold aK;rw[if_neg (by omega)]⟩))
theorem wY (A:Option Addr) (len c:Nat) (zs:List Int) (root page:Int) (w:World) (B:Nat) (hz:Row .u8 w B A len zs) (hB:B<=w.heap.size) (hb:Bytes zs) (hn:len<=140737488355328):
 Calls Tryz.prog 81 #[.slice A len c,.int .i64 root,.int .i64 page] w λe w'=>e=.returned (.tuple #[.int .i64 (aK zs root page),.int .i64 (aG zs root page)])/\Below w.heap.size w w':=by
 have HZ:=hZ hz;have HB:=hZ hb;have hbx:Below B w w:=Below.refl _ _;clear hz hb;rcases Ws zs root page with⟨e1,e2,h⟩|⟨h0,h1,hc⟩
 ·rw[e1,e2]
  clear e1 e2;rcases h with h|h
  all_goals
   go_enter Tryz.func81,Tryz.ntmps81;go_wp2
   all_goals go_ret2
   all_goals exact⟨rfl,Below.refl _ _⟩
 ·have hcon:=λW hW=>aD3 A len c zs root (page/8) W B (HZ.out.below hW) (Nat.le_trans hB hW.size) HB.out hn
  have HC:=hZ hcon;clear hcon;generalize mO zs root (page/8)=E at*;generalize pG zs root (page/8)=K at*;generalize rH zs root (page/8)=N at*;rcases hc with⟨c1,e1,e2⟩|⟨rfl,rfl,e1,e2⟩|⟨rfl,c1,c2,e1,e2⟩|⟨rfl,rfl,e1,e2⟩
  ·rw[e1,e2]
   have b1:(E !=0)=true:=by rw[bne_iff_ne];exact c1
   clear e1 e2 c1;go_enter Tryz.func81,Tryz.ntmps81;go_wp2_with(go_at_call 126;refine(HC.out _ hbx).mono ?_;rintro e w1 ⟨rfl,hb1⟩;obtain⟨hc1,hf1⟩:=wO hb1)
   go_ret2
   exact⟨rfl,hb1.alloc hb1.size _⟩
  ·rw[e1,e2]
   clear e1 e2;go_enter Tryz.func81,Tryz.ntmps81;go_wp2_with(go_at_call 126;refine(HC.out _ hbx).mono ?_;rintro e w1 ⟨rfl,hb1⟩;obtain⟨hc1,hf1⟩:=wO hb1)
   go_ret2
   exact⟨rfl,(hb1.alloc hb1.size _)⟩
  ·rw[e1,e2]
   have b1:(K==0)=false:=by simp[c1]
   have b2:(K !=1)=true:=by simp[c2]
   clear e1 e2 c1 c2;go_enter Tryz.func81,Tryz.ntmps81;go_wp2_with(go_at_call 126;refine(HC.out _ hbx).mono ?_;rintro e w1 ⟨rfl,hb1⟩;obtain⟨hc1,hf1⟩:=wO hb1)
   go_ret2
   exact⟨rfl,(hb1.alloc hb1.size _)⟩
  ·rw[e1,e2]
   clear e1 e2;go_enter Tryz.func81,Tryz.ntmps81;go_wp2_with(go_at_call 126;refine(HC.out _ hbx).mono ?_;rintro e w1 ⟨rfl,hb1⟩;obtain⟨hc1,hf1⟩:=wO hb1)
   go_ret2
   exact⟨rfl,(hb1.alloc hb1.size _)⟩
theorem aHe (zs:List Int) (root page:Int):aG zs root page=0\/aG zs root page=1\/aG zs root page=2\/aG zs root page=3:=by
 have h9:mO zs root (page/8)=2\/mO zs root (page/8)=0\/mO zs root (page/8)=1:=by
  unfold mO;split
  ·exact .inl rfl
  ·exact .inr (aMc _)
 rcases Ws zs root page with⟨e,_⟩|⟨_,_,⟨_,e,_⟩|⟨_,_,e,_⟩|⟨_,_,_,e,_⟩|⟨_,_,e,_⟩⟩<;>omega
theorem aHn (zs:List Int) (root page:Int):
 (aG zs root page=3/\lI zs root page=0/\j6 zs root page=0/\j5 zs root page=0)\/
 ((aG zs root page=1\/aG zs root page=2)/\lI zs root page=aG zs root page/\j6 zs root page=0/\j5 zs root page=0)\/
 (aG zs root page=0/\0<=page/\page<64/\lI zs root page=mO zs (aK zs root page) (page%8)/\j6 zs root page=pG zs (aK zs root page) (page%8)/\j5 zs root page=rH zs (aK zs root page) (page%8)):=by
 unfold lI j6 j5;rcases aHe zs root page with h|h|h|h
 ·right;right
  have hp:0<=page/\page<64:=by
   unfold aG at h;split at h
   ·cases h
   ·omega
  simp only[h];exact⟨trivial,hp.1,hp.2,rfl,rfl,rfl⟩
 ·right;left;simp[h]
 ·right;left;simp[h]
 ·left;simp[h]
theorem aIc (A:Option Addr) (len c:Nat) (zs:List Int) (root page:Int) (w:World) (B:Nat) (hz:Row .u8 w B A len zs) (hB:B<=w.heap.size) (hb:Bytes zs) (hn:len<=140737488355328):
 Calls Tryz.prog 113 #[.slice A len c,.int .i64 root,.int .i64 page] w λe w'=>e=.returned (.tuple #[.agg #[.int .i64 (j6 zs root page),.int .i64 (j5 zs root page)],.int .i64 (lI zs root page)])/\Below w.heap.size w w':=by
 have wH:=hZ (λW (hW:Below B w W)=>wY A len c zs root page W B (hz.below hW) (Nat.le_trans hB hW.size) hb hn);have HAT:=hZ (λW f k (hW:Below B w W)=>aD3 A len c zs f k W B (hz.below hW) (Nat.le_trans hB hW.size) hb hn);clear hz hb;rcases aHn zs root page with⟨h,e1,e2,e3⟩|⟨h,e1,e2,e3⟩|⟨h,h0,h1,e1,e2,e3⟩
 ·rw[e1,e2,e3]
  rw[h] at wH;clear e1 e2 e3 h;go_enter Tryz.func113,Tryz.ntmps113;go_wp2_with(go_at_call 81;refine(wH.out _ ((Below.refl _ _).alloc hB _)).mono ?_;rintro e w1 ⟨rfl,hb1⟩;obtain⟨hc1,hf1⟩:=wO hb1;have hz1:w.heap.size<w1.heap.size:=(by have:=hb1.size;simp at this;omega))
  refine bodyPost_ret (v:=.tuple #[.agg #[.int .i64 0,.int .i64 0],.int .i64 0]) (by simp[results,Tryz.results113,go_sem,hc1]) rfl ⟨rfl,?_⟩;simp only[World.size_alloc] at hb1;exact((((Below.refl _ _).alloc (nR _) _).trans (hb1.mono (by omega))).setCell (nR _) _).setCell (nR _) _
 ·rw[e1,e2,e3]
  generalize aG zs root page=E at*;clear e1 e2 e3;rcases h with rfl|rfl
  all_goals
   go_enter Tryz.func113,Tryz.ntmps113;go_wp2_with(go_at_call 81;refine(wH.out _ ((Below.refl _ _).alloc hB _)).mono ?_;rintro e w1 ⟨rfl,hb1⟩;obtain⟨hc1,hf1⟩:=wO hb1;have hz1:w.heap.size<w1.heap.size:=(by have:=hb1.size;simp at this;omega))
   first
    |refine bodyPost_ret (v:=.tuple #[.agg #[.int .i64 0,.int .i64 0],.int .i64 1]) (by simp[results,Tryz.results113,go_sem,hc1]) rfl ⟨rfl,?_⟩
    |refine bodyPost_ret (v:=.tuple #[.agg #[.int .i64 0,.int .i64 0],.int .i64 2]) (by simp[results,Tryz.results113,go_sem,hc1]) rfl ⟨rfl,?_⟩
   simp only[World.size_alloc] at hb1;exact((((Below.refl _ _).alloc (nR _) _).trans (hb1.mono (by omega))).setCell (nR _) _).setCell (nR _) _
 ·rw[e1,e2,e3]
  rw[h] at wH;have hv:=aAw zs root page;generalize aK zs root page=v at*;clear e1 e2 e3 h;have hbl:=@Below.trans;go_enter Tryz.func113,Tryz.ntmps113;go_wp2_with fail
  refine(wH.out _ ((Below.refl _ _).alloc hB _)).mono ?_;rintro e w1 ⟨rfl,hb1⟩;simp only[World.size_alloc] at hb1;have hz1:w.heap.size+1<=w1.heap.size:=by have:=hb1.size;simp at this;omega
  have aNi:Below w.heap.size w w1:=((Below.refl _ _).alloc (nR _) _).trans (hb1.mono (by omega));have hc1:∀o,w1.cell? ⟨w.heap.size,o,none⟩=(#[Value.int .i64 0,.int .i64 0]:Array Value)[o]? :=λo=>by rw[hb1.cell (p:=⟨w.heap.size,o,none⟩) (by simp)];exact World.cell?_alloc_new _ _ _ _
  have hf1:∀o,w1.frozen? ⟨w.heap.size,o,none⟩=false:=λo=>by rw[hb1.frozen (p:=⟨w.heap.size,o,none⟩) (by simp)];simp[go_sem]
  clear hbl;go_wp2_with fail
  refine(HAT.out _ v (page%8) (aNi.mono hB)).mono ?_;rintro e w2 ⟨rfl,hb2⟩;have hz2:=hb2.size;have hc2:∀o,w2.cell? ⟨w.heap.size,o,none⟩=(#[Value.int .i64 0,.int .i64 0]:Array Value)[o]? :=λo=>(hb2.cell (p:=⟨w.heap.size,o,none⟩) (by show w.heap.size<_;omega)).trans (hc1 o);have hf2:∀o,w2.frozen? ⟨w.heap.size,o,none⟩=false:=λo=>(hb2.frozen (p:=⟨w.heap.size,o,none⟩) (by show w.heap.size<_;omega)).trans (hf1 o);clear hc1 hf1;go_wp2;refine bodyPost_ret (v:=.tuple #[.agg #[.int .i64 (pG zs v (page%8)),.int .i64 (rH zs v (page%8))],.int .i64 (mO zs v (page%8))]) (by simp[results,Tryz.results113,go_sem,hc2]) rfl ⟨rfl,?_⟩;exact((aNi.trans (hb2.mono (by omega))).setCell (nR _) _).setCell (nR _) _
def Ed (zs:List Int) (f k K N:Int):Int:=if cB K N≠0 then cB K N else if Mc zs.length f k<0 then 2 else 0
def Nk (zs:List Int) (f k K N:Int):List Int:=if Ed zs f k K N=0 then dO zs (Mc zs.length f k).toNat (dH K N) 4 else zs
theorem Tt (zs:List Int) (f k K N:Int):
 ((cB K N=5\/cB K N=2)/\Ed zs f k K N=cB K N/\Nk zs f k K N=zs)\/
 (cB K N=0/\¬lJ zs.length f k/\Ed zs f k K N=2/\Nk zs f k K N=zs)\/
 (cB K N=0/\lJ zs.length f k/\Ed zs f k K N=0/\Nk zs f k K N=dO zs (64*f+4*k).toNat (dH K N) 4):=by
 have hp:cB K N=5\/cB K N=2\/cB K N=0:=by
  unfold cB;split
  ·exact .inl rfl
  ·split
   ·exact .inr (.inl rfl)
   ·exact .inr (.inr rfl)
 by_cases h:cB K N=0
 ·by_cases h2:lJ zs.length f k
  ·have e:Ed zs f k K N=0:=by unfold Ed;rw[if_neg (by omega),if_neg (λh=>Y7.1 h h2)]
   exact .inr (.inr ⟨h,h2,e,by unfold Nk;rw[if_pos e,Y6 h2]⟩)
  ·have e:Ed zs f k K N=2:=by unfold Ed;rw[if_neg (by omega),if_pos (Y7.2 h2)]
   exact .inr (.inl ⟨h,h2,e,by unfold Nk;rw[if_neg (by omega)]⟩)
 ·have e:Ed zs f k K N=cB K N:=by unfold Ed;rw[if_pos h]
  exact .inl ⟨by omega,e,by unfold Nk;rw[if_neg (by omega)]⟩
def WrP (T:TypeId) (w:World) (base:Nat) (A:Option Addr) (len c:Nat) (E:Int) (zs:List Int) (e:Ending) (w':World):Prop:=e=.returned (.int .i64 E)/\Own .u8 T w' base A len c zs/\bD (kN A) w w'
theorem aD0 (A:Option Addr) (len c:Nat) (zs:List Int) (f k K N:Int) (w:World) (base:Nat) (ho:Own .u8 5 w base A len c zs) (hB:base<=w.heap.size) (hn:len<=140737488355328) (k0:0<=k) (k1:k<8):
 Calls Tryz.prog 155 #[.slice A len c,.int .i64 f,.int .i64 k,.agg #[.int .i64 K,.int .i64 N]] w (WrP 5 w base A len c (Ed zs f k K N) (Nk zs f k K N)):=by
 have hl:=ho.1;have HO:=hZ ho;have Qv:=hZ (λW=>Ul K N W);clear ho;rcases Tt zs f k K N with⟨h,e1,e2⟩|⟨h,h2,e1,e2⟩|⟨h,h2,e1,e2⟩
 ·rw[e1,e2]
  clear e1 e2 hl;generalize dH K N=v at*;generalize cB K N=E at*;rcases h with rfl|rfl
  all_goals
   go_enter Tryz.func155,Tryz.ntmps155;go_wp2_with(go_at_call 174;refine(Qv.out _).mono ?_;rintro e w1 ⟨rfl,hw⟩;rw[hw];clear hw)
   go_ret;exact⟨rfl,HO.out.below (((Below.refl w.heap.size w).alloc (nR _) _).alloc (by simp) _) (nR _),bD.of (((Below.refl w.heap.size w).alloc (nR _) _).alloc (by simp) _)⟩
 ·rw[h] at Qv
  rw[e1,e2];clear e1 e2 h;generalize dH K N=v at*;unfold lJ at h2;by_cases hf:f<0\/64<=f
  ·have e:Hid (fD f= -1):=hZ (by unfold fD;rw[if_pos (by omega)])
   clear h2 hl hf;go_enter Tryz.func155,Tryz.ntmps155;go_wp2_with(first
    |(go_at_call 174;refine(Qv.out _).mono ?_;rintro e w1 ⟨rfl,hw⟩;rw[hw];clear hw)
    |(go_at_call 106;refine(kI f _).mono ?_;rintro e' w' ⟨rfl,hw⟩;rw[hw,e.out];clear hw))
   go_ret;exact⟨rfl,HO.out.below (((Below.refl w.heap.size w).alloc (nR _) _).alloc (by simp) _) (nR _),bD.of (((Below.refl w.heap.size w).alloc (nR _) _).alloc (by simp) _)⟩
  ·have e:Hid (fD f=f*64):=hZ (by unfold fD;rw[if_neg (by omega)])
   have f0:0<=f:=by omega
   have f1:f<64:=by omega
   have hno:(len:Int) -4<f*64+4*k:=by omega
   clear h2 hl hf;go_enter Tryz.func155,Tryz.ntmps155;go_wp2_with(first
    |(go_at_call 174;refine(Qv.out _).mono ?_;rintro e w1 ⟨rfl,hw⟩;rw[hw];clear hw)
    |(go_at_call 106;refine(kI f _).mono ?_;rintro e' w' ⟨rfl,hw⟩;rw[hw,e.out];clear hw)
    |(go_at_call 175;refine(aK2 A len c (f*64+4*k) 4 v _ hn (by omega)).mono ?_;rintro e w2 ⟨rfl,hw2⟩;rw[hw2];clear hw2))
   go_ret;exact⟨rfl,HO.out.below (((Below.refl w.heap.size w).alloc (nR _) _).alloc (by simp) _) (nR _),bD.of (((Below.refl w.heap.size w).alloc (nR _) _).alloc (by simp) _)⟩
 ·rw[h] at Qv
  rw[e1,e2];clear e1 e2 h;generalize dH K N=v at*;unfold lJ at h2;have e:Hid (fD f=f*64):=hZ (by unfold fD;rw[if_neg (by omega)]);obtain⟨f0,f1,_,_,h3⟩:=h2;obtain⟨p,hp⟩:∃p:Nat,f*64+4*k=p:=⟨(f*64+4*k).toNat,by omega⟩;have ea:(64*f+4*k).toNat=p:=by omega
  rw[ea];have hpl:(p:Int)+4<=(len:Int):=by omega
  have HP:=hZ hp;clear hl ea h3 hp;go_enter Tryz.func155,Tryz.ntmps155;go_wp2_with(first
   |(go_at_call 174;refine(Qv.out _).mono ?_;rintro e w1 ⟨rfl,hw⟩;rw[hw];clear hw)
   |(go_at_call 106;refine(kI f _).mono ?_;rintro e' w' ⟨rfl,hw⟩;rw[hw,e.out];clear hw)
   |(go_at_call 175;rw[HP.out];refine(aIt A len c zs p 4 v _ base (HO.out.below (((Below.refl w.heap.size w).alloc (nR _) _).alloc (by simp) _) (nR _)) hn (by omega) (by omega) hpl).mono ?_;rintro e w2 ⟨rfl,ho2,hb2⟩;have HQ:=hZ ho2;clear ho2))
  go_ret;exact⟨rfl,HQ.out,(bD.of (S:=kN A) (((Below.refl w.heap.size w).alloc (nR _) _).alloc (by simp) _)).trans hb2 λ_ _ h=>h⟩
def nO (zs:List Int) (root page K N:Int):Int:=if aG zs root page≠0 then aG zs root page else Ed zs (aK zs root page) (page%8) K N
def jU (zs:List Int) (root page K N:Int):List Int:=if aG zs root page≠0 then zs else Nk zs (aK zs root page) (page%8) K N
theorem Wt {zs:List Int} {root page:Int} (h:aG zs root page=0):0<=page/\page<64:=by
 unfold aG at h;split at h
 ·cases h
 ·omega
theorem aE0 (A:Option Addr) (len c:Nat) (zs:List Int) (root page K N:Int) (w:World) (base:Nat) (ho:Own .u8 5 w base A len c zs) (hB:base<=w.heap.size) (hb:Bytes zs) (hn:len<=140737488355328):
 Calls Tryz.prog 115 #[.slice A len c,.int .i64 root,.int .i64 page,.agg #[.int .i64 K,.int .i64 N]] w (WrP 5 w base A len c (nO zs root page K N) (jU zs root page K N)):=by
 have hr:=ho.row;have wH:=hZ (λW (hW:Below w.heap.size w W)=>wY A len c zs root page W _ (hr.below hW) hW.size hb hn);have pJ:=hZ (λW (hW:Below w.heap.size w W) f k k0 k1=>aD0 A len c zs f k K N W base (ho.below hW (nR _)) (Nat.le_trans hB hW.size) hn k0 k1);have HO:=hZ ho;clear hr ho hb;by_cases h:aG zs root page=0
 ·obtain⟨p0,p1⟩:=Wt h
  have e1:nO zs root page K N=Ed zs (aK zs root page) (page%8) K N:=by unfold nO;rw[if_neg (by omega)]
  have e2:jU zs root page K N=Nk zs (aK zs root page) (page%8) K N:=by unfold jU;rw[if_neg (by omega)]
  rw[e1,e2];rw[h] at wH;clear e1 e2 h;generalize aK zs root page=v at*;go_enter Tryz.func115,Tryz.ntmps115;go_wp2_with fail
  refine(wH.out _ ((Below.refl _ _).alloc (nR _) _)).mono ?_;rintro e w1 ⟨rfl,hb1⟩;obtain⟨hc1,hn1,hz1⟩:=step1 hb1;simp only[World.size_alloc] at hb1;have hbw:Below w.heap.size w w1:=((Below.refl _ _).alloc (nR _) _).trans (hb1.mono (by omega));go_wp2_with fail
  refine(pJ.out _ hbw v (page%8) (by omega) (by omega)).mono ?_;rintro e w2 ⟨rfl,ho2,hb2⟩;have HQ:=hZ ho2;clear ho2;go_wp2;go_ret;exact⟨rfl,HQ.out,(bD.of (S:=kN A) hbw).trans hb2 λ_ _ h=>h⟩
 ·have e1:nO zs root page K N=aG zs root page:=by unfold nO;rw[if_pos h]
  have e2:jU zs root page K N=zs:=by unfold jU;rw[if_pos h]
  rw[e1,e2];have hne:(aG zs root page !=0)=true:=by simp[h]
  clear e1 e2 h;generalize aG zs root page=E at*;go_enter Tryz.func115,Tryz.ntmps115;go_wp2_with fail
  refine(wH.out _ ((Below.refl _ _).alloc (nR _) _)).mono ?_;rintro e w1 ⟨rfl,hb1⟩;simp only[World.size_alloc] at hb1;have hbw:Below w.heap.size w w1:=((Below.refl _ _).alloc (nR _) _).trans (hb1.mono (by omega));go_wp2;go_ret;exact⟨rfl,HO.out.below hbw (nR _),bD.of hbw⟩
end Go.Proofs.YtoogfmbojlpjaaaGreat
namespace Go.Proofs.YtoogfmbojlpjaaaGreat
open Go.ChangeShapes Go.WideShapes Go.ChangeAt Go.RowKit Go.Joins
theorem gX:(Tryz.prog.info? 40).map (·.size)=some 8:=by kernel_rfl
theorem aHS {w w':World} {o1 o2:Obj} (h:w'=(w.alloc o1).alloc o2):Below w.heap.size w w':=by rw[h];exact(aD _ _).alloc (by simp) _
theorem aHA {w:World} {v:Value} {l:List aC} (h:Rv w v l) (K:aJ) (pg way:Int):
 Calls Tryz.prog 131 #[v,K.v,.int .i64 pg,.int .i64 way] w λe w'=>e=.returned (.int .i64 (kJ l K pg way))/\Below w.heap.size w w':=by
 obtain⟨t0,d0,t1,d1,t2,d2,t3,d3⟩:=K;obtain⟨A,n,c,rfl,hz,hn⟩:=h;have HP:=hZ (λr key tg sd W=>aIA r key tg sd ⟨t0,d0,t1,d1,t2,d2,t3,d3⟩ way W);simp only[aJ.v] at HP⊢;have HF:=hZ (aCT A n c l pg (w.alloc (.cells #[.bool t0,.int .i64 d0,.bool t1,.int .i64 d1,.bool t2,.int .i64 d2,.bool t3,.int .i64 d3] 40)) w.heap.size (hz.below (aD _ _)) (by simp) (by omega));have HB1:=hZ (aD w (.cells #[.bool t0,.int .i64 d0,.bool t1,.int .i64 d1,.bool t2,.int .i64 d2,.bool t3,.int .i64 d3] 40));have zC:Hid (Bx (w.alloc (.cells #[.bool t0,.int .i64 d0,.bool t1,.int .i64 d1,.bool t2,.int .i64 d2,.bool t3,.int .i64 d3] 40)) w.heap.size 40 #[.bool t0,.int .i64 d0,.bool t1,.int .i64 d1,.bool t2,.int .i64 d2,.bool t3,.int .i64 d3]):=hZ (Bx.new _ _ _);have HR:=hZ (show kJ l ⟨t0,d0,t1,d1,t2,d2,t3,d3⟩ pg way=(match dF l pg with|none=>1|some a=>oZ a.r a.k ⟨t0,d0,t1,d1,t2,d2,t3,d3⟩ way) from rfl);clear hz;unfold Ym at HF;cases ha:dF l pg with
 |none=>
  rw[ha] at HF HR;have HR2:Hid (kJ l ⟨t0,d0,t1,d1,t2,d2,t3,d3⟩ pg way=1):=hZ HR.out;clear HR HP;generalize kJ l ⟨t0,d0,t1,d1,t2,d2,t3,d3⟩ pg way=r at*;simp only[Option.getD,Option.isSome] at HF;unfold zA at HF;go_enter Tryz.func131,Tryz.ntmps131;go_wp2_with(first
   |(go_at_call 25
     refine HF.out.mono ?_;rintro e w4 ⟨rfl,hb4⟩;have K4:=hZ (HB1.out.trans (hb4.mono HB1.out.size));clear hb4))
  go_ret;exact⟨iR HR2.out.symm,K4.out.trans ((aD _ _).mono K4.out.size)⟩
 |some a=>
  obtain⟨ar,ak,ag,S9⟩:=a;rw[ha] at HF HR;have HR2:Hid (kJ l ⟨t0,d0,t1,d1,t2,d2,t3,d3⟩ pg way=oZ ar ak ⟨t0,d0,t1,d1,t2,d2,t3,d3⟩ way):=hZ HR.out;clear HR;simp only[Option.getD,Option.isSome] at HF;generalize kJ l ⟨t0,d0,t1,d1,t2,d2,t3,d3⟩ pg way=r at*;go_enter Tryz.func131,Tryz.ntmps131;go_wp2_with(first
   |(go_at_call 25
     refine HF.out.mono ?_;rintro e w4 ⟨rfl,hb4⟩;have K4:=hZ (HB1.out.trans (hb4.mono HB1.out.size));have X4:=hZ (zC.out.below hb4);have Cw:w.heap.size<w4.heap.size:=X4.out.lt;clear hb4)
   |((with_reducible refine qW Tryz.underlying40 rfl gX w.heap.size 0 #[.bool t0,.int .i64 d0,.bool t1,.int .i64 d1,.bool t2,.int .i64 d2,.bool t3,.int .i64 d3] ?_ ?_ (X4.out.below (aD _ _)) (Sub.all _) rfl ?_);rfl;rfl)
   |(go_at_call 163
     refine(HP.out ar ak ag S9 _).mono ?_;rintro e w5 ⟨rfl,nJ⟩;have hb5:=aHS nJ;clear nJ))
  go_ret;exact⟨iR HR2.out.symm,(K4.out.trans ((aD _ _).mono K4.out.size)).trans (hb5.mono (by simp;omega))⟩
theorem aFI (o:aL) (ho:o.fits) (w:World):
 Calls Tryz.prog 83 #[o.v] w λe w'=>e=.returned (.bool (gM o))/\Below w.heap.size w w':=by
 obtain⟨k,pr,pg,cn,ri,ke,bR,dr,ad,sz,va,ta⟩:=o;unfold aL.fits eG at ho;simp only at ho;obtain⟨fk,fp,Py,fc,fri,fke,Xi,Sw,Xf,fva,fta⟩:=ho;simp only[aL.v];have HB1:=hZ (aD w (.cells #[.int .i64 k,.int .i64 pr,.int .i64 pg,.int .i64 cn,.int .i64 ri,.int .i64 ke,.bool bR,.int .i64 dr,.int .i64 ad,.int .i64 sz,.int .i64 va,.int .i64 ta] 26));have HS:=hZ (show gM ⟨k,pr,pg,cn,ri,ke,bR,dr,ad,sz,va,ta⟩=(if ta<0\/15<ta then false
  else if k=13 then decide (ad%16=0)&&decide (1<=cn)&&decide (cn<=256)&&oK ad (cn*16)
  else decide (1<=sz)&&decide (sz<=4)&&oK ad sz) from rfl)
 generalize gM ⟨k,pr,pg,cn,ri,ke,bR,dr,ad,sz,va,ta⟩=r at*;by_cases c1:ta<0
 ·have HR:Hid (r=false):=hZ (by rw[HS.out,if_pos (.inl c1)])
  clear HS;go_enter Tryz.func83,Tryz.ntmps83;go_wp2;go_ret;exact⟨bH HR.out.symm,HB1.out⟩
 by_cases c2:15<ta
 ·have HR:Hid (r=false):=hZ (by rw[HS.out,if_pos (.inr c2)])
  clear HS;go_enter Tryz.func83,Tryz.ntmps83;go_wp2;go_ret;exact⟨bH HR.out.symm,HB1.out⟩
 by_cases c3:k=13
 ·have HR:Hid (r=(decide (ad%16=0)&&decide (1<=cn)&&decide (cn<=256)&&oK ad (cn*16))):=hZ (by rw[HS.out,if_neg (by omega),if_pos c3])
  subst c3;clear HS;have ht:(Int.tmod ad 16==0)=decide (ad%16=0):=by
   have:Int.tmod ad 16=0↔ad%16=0:=by
    rw[<-Int.dvd_iff_tmod_eq_zero,<-Int.dvd_iff_emod_eq_zero]
   by_cases e:ad%16=0
   ·rw[decide_eq_true e,this.2 e];rfl
   ·rw[decide_eq_false e,beq_eq_false_iff_ne];exact λh=>e (this.1 h)
  by_cases c4:ad%16=0
  ·rw[decide_eq_true c4] at ht HR
   by_cases c5:1<=cn
   ·by_cases c6:cn<=256
    ·have Tp:=hZ (λW=>aAW ad (cn*16) Sw (by unfold eG;omega) W)
     have HR2:Hid (r=oK ad (cn*16)):=hZ (by rw[HR.out,decide_eq_true c5,decide_eq_true c6];rfl);clear HR c4;generalize oK ad (cn*16)=q at*;go_enter Tryz.func83,Tryz.ntmps83;go_wp2_with(go_at_call 130;refine(Tp.out _).mono ?_;rintro e w' ⟨rfl,rfl⟩)
     go_ret;exact⟨bH HR2.out.symm,HB1.out⟩
    ·have HR2:Hid (r=false):=hZ (by rw[HR.out,decide_eq_false c6];simp)
     clear HR c4;go_enter Tryz.func83,Tryz.ntmps83;go_wp2;go_ret;exact⟨bH HR2.out.symm,HB1.out⟩
   ·have HR2:Hid (r=false):=hZ (by rw[HR.out,decide_eq_false c5];simp)
    clear HR c4;go_enter Tryz.func83,Tryz.ntmps83;go_wp2;go_ret;exact⟨bH HR2.out.symm,HB1.out⟩
  ·rw[decide_eq_false c4] at ht HR
   have HR2:Hid (r=false):=hZ (by rw[HR.out];simp);clear HR c4;go_enter Tryz.func83,Tryz.ntmps83;go_wp2;go_ret;exact⟨bH HR2.out.symm,HB1.out⟩
 ·have HR:Hid (r=(decide (1<=sz)&&decide (sz<=4)&&oK ad sz)):=hZ (by rw[HS.out,if_neg (by omega),if_neg c3])
  clear HS;have hk:(k==13)=false:=by rw[beq_eq_false_iff_ne];exact c3
  by_cases c5:1<=sz
  ·by_cases c6:sz<=4
   ·have Tp:=hZ (λW=>aAW ad sz Sw Xf W)
    have HR2:Hid (r=oK ad sz):=hZ (by rw[HR.out,decide_eq_true c5,decide_eq_true c6];rfl);clear HR;generalize oK ad sz=q at*;go_enter Tryz.func83,Tryz.ntmps83;go_wp2_with(go_at_call 130;refine(Tp.out _).mono ?_;rintro e w' ⟨rfl,rfl⟩)
    go_ret;exact⟨bH HR2.out.symm,HB1.out⟩
   ·have HR2:Hid (r=false):=hZ (by rw[HR.out,decide_eq_false c6];simp)
    clear HR;go_enter Tryz.func83,Tryz.ntmps83;go_wp2;go_ret;exact⟨bH HR2.out.symm,HB1.out⟩
  ·have HR2:Hid (r=false):=hZ (by rw[HR.out,decide_eq_false c5];simp)
   clear HR;go_enter Tryz.func83,Tryz.ntmps83;go_wp2;go_ret;exact⟨bH HR2.out.symm,HB1.out⟩
end Go.Proofs.YtoogfmbojlpjaaaGreat
