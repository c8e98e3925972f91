/- Lemmas. -/
import Derived.Test.YtoogfmbojlpjaaaGreatQ35
import Derived.Test.YtoogfmbojlpjaaaGreatQ37
import Derived.Test.YtoogfmbojlpjaaaGreatQ21
import Derived.Test.YtoogfmbojlpjaaaGreatQ15
import Derived.Test.YtoogfmbojlpjaaaGreatQ26
import Derived.Test.YtoogfmbojlpjaaaGreatQA
set_option maxRecDepth 100000
set_option maxHeartbeats 32000000
set_option linter.unusedVariables false
set_option linter.unusedSimpArgs false
namespace Go.Proofs.YtoogfmbojlpjaaaGreat
open Go.ChangeShapes Go.WideShapes Go.ChangeAt Go.RowKit Go.Joins Go.Sort
section
theorem aN.keep {N:Nat} {S:Nat->Prop} {w w':World} (h:bD S w w') (hN:N<=w.heap.size) (hS:∀b,S b->N<=b/\∃T cur,(T=69\/T=5\/T=4)/\Bx w b T cur):aN N w w':=by
 refine⟨h.below (λb hb=>(hS b hb).1) hN,λb T cs h1 h2 h3 hx=>(h.block b hx.lt (λhs=> ?_)).trans hx⟩;obtain⟨_,T',cur,hT,hx'⟩:=hS b hs;unfold Bx at hx hx';rw[hx] at hx';injection hx' with e;injection e with _ e;subst e;rcases hT with hT|hT|hT
 ·exact h1 hT
 ·exact h2 hT
 ·exact h3 hT
section
variable {w w':World} {N m r t u c:Nat} {Z:Nat->Prop} {cs:Array Value} {v:Vm}
theorem Mo.Rh {zs' ts':List Int} (h:Mo w N Z m r t u c cs v) (hk:bD (λb=>b=r\/b=t) w w') (hr:Own .u8 5 w' N (some ⟨r,0,none⟩) 4096 4096 zs') (ht:Own .u8 5 w' N (some ⟨t,0,none⟩) 128 128 ts'):
 Mo w' N Z m r t u c cs { v with zs:=zs',ts:=ts' } :=by
 obtain⟨n1,n2,n3,n4,n5⟩:=h.ne;obtain⟨l1,l2,l3,l4⟩:=h.lt;obtain⟨q1,x1⟩:=nI h.iX (by decide);obtain⟨q2,x2⟩:=nI h.tag (by decide);have V:=h.V.keeps (w':=w') (λb hb ho=>hk.block b hb (λe=>by rcases e with e|e;exact ho.2.1 e;exact ho.2.2.1 e)) (λb cur hx=>(hk.block b hx.lt (λe=>by
  rcases e with e|e
  ·exact gP hx x1 (by decide) e
  ·exact gP hx x2 (by decide) e)).trans hx) hk.size
 exact⟨h.nm,h.nr,h.nt,h.nu,h.rt,λb hz=>Nat.lt_of_lt_of_le (h.zl b hz) hk.size,(hk.block m l1 (λe=>by rcases e with e|e;exact n1 e;exact n2 e)).trans h.X,hr,ht,h.us.same (hk.block u l4 (λe=>by rcases e with e|e;exact n4 e.symm;exact n5 e.symm)),⟨V.size,V.one,V.iX,V.tag,V.free,V.refs,V.dev,V.vS,V.live,V.root,V.rg,V.ks,V.used,V.fixed,V.hand⟩⟩
theorem Mo.aCL (h:Mo w N Z m r t u c cs v) (hk:bD (λb=>b=r\/b=t) w w'):aN N w w':=by
 obtain⟨q1,x1⟩:=nI h.iX (by decide);obtain⟨q2,x2⟩:=nI h.tag (by decide);refine aN.keep hk h.hN (λb hb=> ?_);rcases hb with rfl|rfl
 ·exact⟨h.nr,_,_,.inr (.inl rfl),x1⟩
 ·exact⟨h.nt,_,_,.inr (.inl rfl),x2⟩
end
theorem aHo (zs:List Int) (a k:Nat) (x:Int) (hk:k<zs.length):(zs.set a x).getD k 0=if a=k then x else zs.getD k 0:=by
 by_cases e:a=k
 ·subst e;simp[List.getD,hk]
 ·simp[List.getD,e]
theorem aCK (zs:List Int) (k:Nat) (hk:zs.length<=k):zs.getD k 0=0:=by simp[List.getD,List.getElem?_eq_none hk]
theorem aHl {b g tag:Int} (h0:0<=b) (h1:b<256) (t0:0<=tag) (t1:tag<16):0<=yM b g tag/\yM b g tag<256:=by
 unfold yM;split<;>omega
theorem aGd {ts:List Int} (hb:Bytes ts) {g tag:Int} (t0:0<=tag) (t1:tag<16):Bytes (L9 ts g tag):=λi=>by
 unfold L9;by_cases hi:i<ts.length
 ·rw[aHo _ _ _ _ hi]
  split
  ·exact aHl (hb _).1 (hb _).2 t0 t1
  ·exact hb i
 ·rw[aCK _ _ (by rw[List.length_set];omega)];omega
theorem aKy (ts:List Int) (g tag:Int):(L9 ts g tag).length=ts.length:=by unfold L9;simp
theorem aHy (ts:List Int) (f:Int) (t:List Int):∀k,(mV ts f t k).length=ts.length
 |0=>rfl
 |k+1=>by unfold mV;rw[aKy,aHy ts f t k]
def aFV (t:List Int):Prop:=∀i,0<=t.getD i 0/\t.getD i 0<16
theorem Sv {ts:List Int} (hb:Bytes ts) (f:Int) {t:List Int} (ht:aFV t):∀k,Bytes (mV ts f t k)
 |0=>hb
 |k+1=>by unfold mV;exact aGd (Sv hb f ht k) (ht k).1 (ht k).2
theorem aEc {T:TypeId} {base g len c:Nat} :∀(b:List Int) (zs:List Int) (a:Nat) (w:World),Own .u8 T w base (some ⟨g,0,none⟩) len c zs->a+b.length<=len->
 Own .u8 T (w.setCells g a (b.map (.int .u8))) base (some ⟨g,0,none⟩) len c (wV zs a b)
 | [],zs,a,w,h,_=>h
 |x::b,zs,a,w,h,hl=>aEc b (zs.set a x) (a+1) _ (h.wT (i:=a) (x:=x) (by simp at hl;omega)) (by simp at hl;omega)
def Src (w:World) (A:Option Addr) (n:Nat) (b:List Int):Prop:=(n=0/\b=[])\/(n=64/\b.length=64/\∃a,A=some a/\∀j x,(b.map (Value.int .u8))[j]? =some x->w.cell? (a.add j)=some x)
theorem aK9 {T:TypeId} {base g len c p:Nat} {zs:List Int} {w:World} (h:Own .u8 T w base (some ⟨g,0,none⟩) len c zs) (hp:p+64<=len):Own .u8 T (w.setCells g p Aq) base (some ⟨g,0,none⟩) len c (lZ zs p 64):=Un 64 zs p w h hp
theorem aLY {T:TypeId} {base g len c p:Nat} {zs:List Int} {w:World} (h:Own .u8 T w base (some ⟨g,0,none⟩) len c zs) (hp:p+64<=len) (ty:TypeId) (cc:Nat):(Builtin.clear_ #[58] ty #[.slice (some ⟨g,p,none⟩) 64 cc]).run Tryz.prog w=.ok (.tuple #[]) (w.setCells g p Aq):=by
 obtain⟨gq,cur,egq,_,hh,hcc⟩:=h.2.2.2 (by omega);obtain rfl:g=gq:=by injection egq with e;injection e
 exact Lib.run_clear_slice (P:=Tryz.prog) w 58 5 ty (.int .u8 0) Tryz.underlying58 aGa rfl rfl g p 64 cc (by decide)
  (λj hj=>by rw[dW hh,hcc (p+j) (by omega)];rfl) (λj hj=>gQ hh _)
theorem aGt:(Tryz.prog.info? 5).map (·.size)=some 1:=by kernel_rfl
theorem aLW {T:TypeId} {base g len c p:Nat} {zs:List Int} {w:World} (h:Own .u8 T w base (some ⟨g,0,none⟩) len c zs) (hp:p+64<=len) {A:Option Addr} {n:Nat} {b:List Int} (hA:Src w A n b) (ty:TypeId) (cc c':Nat):
 (Builtin.copy_ #[58,58] ty #[.slice (some ⟨g,p,none⟩) 64 cc,.slice A n c']).run Tryz.prog w=.ok (goInt (b.map (Value.int .u8)).length) (w.setCells g p (b.map (.int .u8))):=by
 obtain⟨gq,cur,egq,_,hh,hcc⟩:=h.2.2.2 (by omega);obtain rfl:g=gq:=by injection egq with e;injection e
 rcases hA with⟨rfl,rfl⟩|⟨rfl,hbl,a,rfl,hs⟩
 ·exact run_copy_none _ _ _ _ 5 _ _ _ _ _ _ Tryz.underlying58 aGt (by simp)
 ·exact run_copy_cells _ _ _ _ 5 _ _ _ _ _ _ _ _ Tryz.underlying58 aGt (by rw[List.length_map,hbl];rfl) hs (λj hj=>by rw[List.length_map,hbl] at hj;rw[dW hh,hcc (p+j) (by omega)];rfl) (λj hj=>gQ hh _) (λx hx=>by obtain⟨y,_,rfl⟩:=List.mem_map.1 hx;rfl)
theorem Src.le {w:World} {A:Option Addr} {n:Nat} {b:List Int} (h:Src w A n b):b.length<=64:=by
 rcases h with⟨_,rfl⟩|⟨_,h,_⟩
 ·exact Nat.zero_le _
 ·omega
theorem Nq {w:World} {N m r t u c:Nat} {Z:Nat->Prop} {cs:Array Value} {v:Vm} (h:Mo w N Z m r t u c cs v) (hb:Bytes v.ts) (f:Int) (h0:0<=f) (h1:f<64)
 (A:Option Addr) (n c':Nat) (b:List Int) (hA:Src (w.setCells r (f*64).toNat Aq) A n b) (A':Option Addr) (n' c'':Nat) (tl:List Int) (hT:Row .i64 w w.heap.size A' n' tl) (ht4:n'=0\/n'=4) (hloc:∀q o s,A'=some ⟨q,o,s⟩->0<n'->q≠r/\q≠t) (hTg:aFV tl):
 Calls Tryz.prog 135 #[.pointer (some ⟨m,0,none⟩),.int .i64 f,.slice A n c',.slice A' n' c''] w λe w'=>e=.returned (.tuple #[])/\Mo w' N Z m r t u c cs (iM v f b tl)/\bD (λb=>b=r\/b=t) w w':=by
 obtain⟨p,hp⟩:∃p:Nat,f*64=p:=⟨(f*64).toNat,by omega⟩;have hpl:p+64<=4096:=by omega
 obtain⟨n1,n2,_,_,_⟩:=h.ne;obtain⟨l1,l2,l3,_⟩:=h.lt;rw[hp,Int.toNat_natCast] at hA;have aNh:=aLY h.iX hpl;have o1:=aK9 h.iX hpl;have k1:bD (λb=>b=r\/b=t) w (w.setCells r p Aq):=xL (.inl rfl) _ _ _;have aOU:=λty cc=>aLW o1 hpl hA ty cc c';have O2:=hZ (aEc b (lZ v.zs p 64) p _ o1 (by have:=hA.le;omega));have kk:=k1.trans (xL (S:=λb=>b=r\/b=t) (.inl rfl) (b.map (.int .u8)) p _) λ_ _ h=>h;have ht0:((w.setCells r p Aq).setCells r p (b.map (.int .u8))).heap[t]? =w.heap[t]? :=by
  have q:∀(W:World) vs a,t<W.heap.size->(W.setCells r a vs).heap[t]? =W.heap[t]? :=λW vs a hl=>(xL (S:=λb=>b=r) rfl vs a W).block t hl h.rt.symm;rw[q _ _ _ (Nat.lt_of_lt_of_le l3 k1.size),q _ _ _ l3]
 have K2:=hZ kk;have T2:=hZ (h.tag.same ht0);have Tp:Hid (∀W,bD (λb=>b=r\/b=t) w W->Calls Tryz.prog 65 #[.pointer (some ⟨m,0,none⟩),.int .i64 f] W λe w'=>e=.returned (.slice (some ⟨r,p,none⟩) 64 (4096 -p))/\w'=W):=hZ (λW hW=>by
  have hm:W.heap[m]? =w.heap[m]? :=hW.block m l1 (λe=>by rcases e with e|e;exact n1 e;exact n2 e);have q:=aBo ((Hd hm 0).trans h.uE) (Nat.lt_of_lt_of_le l1 hW.size) f h0 h1;rwa[hp,Int.toNat_natCast] at q)
 have HC:Hid (∀W,bD (λb=>b=r\/b=t) w W->W.cell? ⟨m,1,none⟩=some (.slice (some ⟨t,0,none⟩) 128 128)/\m<W.heap.size):=hZ (λW hW=>by
  have hm:W.heap[m]? =w.heap[m]? :=hW.block m l1 (λe=>by rcases e with e|e;exact n1 e;exact n2 e);exact⟨(Hd hm 1).trans h.aFT,Nat.lt_of_lt_of_le l1 hW.size⟩)
 have HTR:Hid (∀W,bD (λb=>b=r\/b=t) w W->Row .i64 W W.heap.size A' n' tl):=hZ (λW hW=>hT.keeps (P:=λq=>q≠r/\q≠t) (λq hq hn=>hW.block q hq (λe=>by rcases e with e|e;exact hn.1 e;exact hn.2 e)) hW.size (λh0 q o s e=>hloc q o s e h0));have K1:=hZ k1;have HM:=hZ h;have Hq:=hZ hT.1;have HTG:=hZ hTg;have HFB:=hZ (λk=>Sv hb f hTg k);have HFE:Hid ((iM v f b tl).zs=wV (lZ v.zs p 64) p b/\(iM v f b tl).ts=mV v.ts f tl 4/\iM v f b tl= { v with zs:=(iM v f b tl).zs,ts:=(iM v f b tl).ts }):=hZ ⟨by unfold iM;rw[hp,Int.toNat_natCast],rfl,rfl⟩;have uK:=hZ h.rt;clear hA hp h o1 k1 kk ht0 hT hloc hTg n1 n2 l1 l2 l3 hb;go_enter Tryz.func135,Tryz.ntmps135;go_wp2_with(go_at_call 65;refine(Tp.out _ (by first|with_reducible exact bD.refl _ _|exact K1.out)).mono ?_;rintro e' w' ⟨rfl,hw⟩;rw[hw];clear hw)
 obtain⟨w2,hw2⟩:∃w2,w2=(w.setCells r p Aq).setCells r p (b.map (.int .u8)):=⟨_,rfl⟩;rw[<-hw2] at O2 K2 T2⊢;clear hw2 aNh aOU K1;go_loopw [18] (λi wr=>∃k:Nat,k<=4/\i=.int .i64 k/\Hid (Own .u8 5 wr N (some ⟨t,0,none⟩) 128 128 (mV v.ts f tl k))/\Hid (Own .u8 5 wr N (some ⟨r,0,none⟩) 4096 4096 (wV (lZ v.zs p 64) p b))/\Hid (bD (λb=>b=r\/b=t) w wr)) (λi _=>4 - (intOf i).toNat)
 case atStart=>exact⟨0,by omega,rfl,T2,O2,K2⟩
 case round=>
  obtain⟨k,hk,rfl,HT,HR,HK⟩:=hrel;by_cases hlt:k<4
  ·obtain⟨c1,l1⟩:=HC.out _ HK.out
   have hki:(k:Int)<4:=by omega
   have hw:IntKind.i64.wrap (f*4+(k:Int))=f*4+(k:Int):=by rw[IntKind.wrap_i64];omega
   have gc:∀(d:Nat) (os:Array Obj) (b o:Nat),b<wr.heap.size->(grow (redrawn wr d) os).cell? ⟨b,o,none⟩=wr.cell? ⟨b,o,none⟩:=λd os b o h=>(below_regrown _ d os).cell (p:=⟨b,o,none⟩) h;have HLT:Hid (n'=4->∃q off,A'=some ⟨q,off,none⟩/\wr.cell? ⟨q,off+k,none⟩=some (.int .i64 (tl.getD k 0))):=hZ (λh4=>by
    obtain⟨q,off,e,_,hc⟩:=(HTR.out _ HK.out).2.2 (by omega);exact⟨q,off,e,hc k (by omega)⟩)
   have HX0:Hid (n'=0->tl.getD k 0=0):=hZ (λh=>aCK _ _ (by rw[Hq.out,h];exact Nat.zero_le _));obtain⟨tg0,tg1⟩:=HTG.out k;have pJ:Hid (∀W,Below wr.heap.size wr W->Calls Tryz.prog 88 #[.slice (some ⟨t,0,none⟩) 128 128,.int .i64 (f*4+(k:Int)),.int .i64 (tl.getD k 0)] W λe w'=>e=.returned (.tuple #[])/\Own .u8 5 w' N (some ⟨t,0,none⟩) 128 128 (mV v.ts f tl (k+1))/\bD (kN (some ⟨t,0,none⟩)) W w'):=hZ (λW hW=>
    Vy (some ⟨t,0,none⟩) 128 128 (mV v.ts f tl k) (f*4+(k:Int)) (tl.getD k 0) W N (HT.out.below hW (nR _)) (HFB.out k) (by omega) (by omega) tg0 tg1 (by decide))
   generalize tl.getD k 0=x at*;clear tg0 tg1;rcases ht4 with rfl|rfl
   ·obtain rfl:=HX0.out rfl
    have hk0:(0:Int)<=(k:Int):=by omega
    go_wp2;refine kD 9 [Sp.call 5 (.int .i64 (f*4))] (by kernel_rfl) (by kernel_rfl) (by kernel_rfl) ?_;intro V hV;have e5:V 5=.int .i64 (f*4):=hV 5;simp only[List.take_succ_cons,List.take_zero,List.drop_succ_cons,List.drop_zero];refine rq rfl rfl ?_;go_big_quiet_step(fail);refine wpQuiet_nil ?_;refine rn ⟨m,0,none⟩ (by kernel_rfl) rfl rfl ?_;go_big_quiet_step(fail);refine wpQuiet_nil ?_;iterate 3 (refine rq rfl rfl ?_;go_big_quiet_step(fail);refine wpQuiet_nil ?_)
    refine mQ (Sp.call 5 _) (by kernel_rfl) rfl (λw' hb hf=> ?_) ?_
    ·refine rF (f:=89) (args:= #[.int .i64 f]) ?_ (Dn f h0 h1 w')
     go_simp
    go_big_quiet_step(fail);refine wpQuiet_nil ?_;simp only[e5];iterate 3 (refine rq rfl rfl ?_;go_big_quiet_step(fail);refine wpQuiet_nil ?_)
    refine rend ?_;intro w6 hb6 hf;clear hf hV gc e5;have nN:=hZ hb6;have HT6:=hZ (pJ.out w6 hb6);clear hb6;go_wp2_with(go_at_call 88;refine HT6.out.mono ?_;rintro e w7 ⟨rfl,Gw,hk7⟩;have Jp:=hZ Gw;have HK7:=hZ hk7;clear Gw hk7)
    go_roundw
    case rel=>
     have k6:=HK.out.more nN.out;refine⟨k+1,by omega,by go_num,Jp,hZ ((HR.out.below nN.out (nR _)).same (HK7.out.block r ?_ ?_)),hZ (k6.trans HK7.out λq hq h=>.inr (by unfold kN at h;injection h with h;injection h with h;exact h.symm))⟩
     ·obtain⟨_,hx⟩:=nI HR.out (by decide)
      exact Nat.lt_of_lt_of_le hx.lt nN.out.size
     ·intro h
      unfold kN at h;injection h with h;injection h with h;exact uK.out h.symm
    case measure=>simp[intOf];omega
   ·obtain⟨q,off,rfl,hc⟩:=HLT.out rfl
    have hk0:(0:Int)<=(k:Int):=by omega
    have lq:=lt_of_cell hc;go_wp2;refine kD 9 [Sp.call 5 (.int .i64 (f*4))] (by kernel_rfl) (by kernel_rfl) (by kernel_rfl) ?_;intro V hV;have e5:V 5=.int .i64 (f*4):=hV 5;simp only[List.take_succ_cons,List.take_zero,List.drop_succ_cons,List.drop_zero];refine rq rfl rfl ?_;go_big_quiet_step(fail);refine wpQuiet_nil ?_;refine rn ⟨m,0,none⟩ (by kernel_rfl) rfl rfl ?_;go_big_quiet_step(fail);refine wpQuiet_nil ?_;iterate 3 (refine rq rfl rfl ?_;go_big_quiet_step(fail);refine wpQuiet_nil ?_)
    refine mQ (Sp.call 5 _) (by kernel_rfl) rfl (λw' hb hf=> ?_) ?_
    ·refine rF (f:=89) (args:= #[.int .i64 f]) ?_ (Dn f h0 h1 w')
     go_simp
    go_big_quiet_step(fail);refine wpQuiet_nil ?_;simp only[e5];iterate 3 (refine rq rfl rfl ?_;go_big_quiet_step(fail);refine wpQuiet_nil ?_)
    refine rend ?_;intro w6 hb6 hf;clear hf hV gc e5;have nN:=hZ hb6;have HT6:=hZ (pJ.out w6 hb6);clear hb6;go_wp2_with(go_at_call 88;refine HT6.out.mono ?_;rintro e w7 ⟨rfl,Gw,hk7⟩;have Jp:=hZ Gw;have HK7:=hZ hk7;clear Gw hk7)
    go_roundw
    case rel=>
     have k6:=HK.out.more nN.out;refine⟨k+1,by omega,by go_num,Jp,hZ ((HR.out.below nN.out (nR _)).same (HK7.out.block r ?_ ?_)),hZ (k6.trans HK7.out λq hq h=>.inr (by unfold kN at h;injection h with h;injection h with h;exact h.symm))⟩
     ·obtain⟨_,hx⟩:=nI HR.out (by decide)
      exact Nat.lt_of_lt_of_le hx.lt nN.out.size
     ·intro h
      unfold kN at h;injection h with h;injection h with h;exact uK.out h.symm
    case measure=>simp[intOf];omega
  ·have hk4:k=4:=by omega
   subst hk4;go_wp2
   go_end0
   refine⟨rfl,?_,HK.out⟩;have q:=HM.out.Rh HK.out HR.out HT.out;rw[HFE.out.2.2,HFE.out.1,HFE.out.2.1];exact q
end
theorem aJE:(Tryz.prog.info? 4).map (λi=>(i.zero,i.size,i.bytes))=some (some (.bool false),1,1):=by kernel_rfl
def oM (k:Nat):Array Value:=madeCells (Value.bool false).cells (k*1)
theorem aHa (k:Nat) (hk:k<=281474976710656) (w:World):
 (Instr.makeSlice 66 (.int .i64 (k:Int)) (.int .i64 (k:Int))).run Tryz.prog w=.ok (.slice (some ⟨w.heap.size,0,none⟩) k k) (w.alloc (.cells (oM k) 4)):=by
 obtain⟨i0,hi,hz0,hz1,hz2⟩:=info_parts aJE;have hr:=run_make (P:=Tryz.prog) w 66 4 i0 (.bool false) Tryz.underlying66 hi hz0 .i64 .i64 (k:Int) (k:Int) (by omega) (by omega) (by rw[hz2];omega) (by omega);simp only[Int.toNat_natCast,hz1] at hr;exact hr
theorem aDf (k i:Nat) (hi:i<k):(oM k)[i]? =some (.bool false):=by
 simp[oM,madeCells,Value.cells];exact⟨i,by simp[hi],by simp[Nat.mod_one]⟩
theorem aDO (k:Nat):(oM k).size=k:=by simp[oM,madeCells,Value.cells]
theorem aIL (v:Vm):(dR v).length=64:=by simp[dR]
theorem aLo (v:Vm) {k:Nat} (hk:k<64):(dR v)[k]? =some (decide (0<v.rf k)&& !v.fx k):=by
 unfold dR;simp[hk]
structure Told (w:World) (g k:Nat) (bs:List Bool):Prop where
 ex:∃cur,Bx w g 4 cur/\cur.size=64/\(∀i b,i<k->bs[i]? =some b->cur[i]? =some (.bool b))/\∀i,i<64->∃b,cur[i]? =some (.bool b)
theorem Told.next {w:World} {g k:Nat} {bs:List Bool} {b:Bool} (h:Told w g k bs) (hk:k<64) (hb:bs[k]? =some b):Told (w.setCell ⟨g,k,none⟩ (.bool b)) g (k+1) bs:=by
 obtain⟨cur,h1,h2,h3,h4⟩:=h.ex;refine⟨_,h1.set k _,by simp[h2],λi x hi hx=> ?_,λi hi=> ?_⟩
 ·by_cases e:i=k
  ·subst e
   rw[hb] at hx;cases hx;rw[Array.getElem?_setIfInBounds_self_of_lt (by omega)]
  ·rw[Array.getElem?_setIfInBounds_ne (by omega)];exact h3 i x (by omega) hx
 ·by_cases e:i=k
  ·subst e;exact⟨b,Array.getElem?_setIfInBounds_self_of_lt (by omega)⟩
  ·rw[Array.getElem?_setIfInBounds_ne (by omega)];exact h4 i hi
theorem Told.ow {w:World} {g base:Nat} {bs:List Bool} (h:Told w g 64 bs) (hl:bs.length=64) (hg:base<=g):Ow fB 1 4 w base (some ⟨g,0,none⟩) 64 64 bs:=by
 obtain⟨cur,h1,h2,h3,h4⟩:=h.ex;refine⟨hl,by omega,by unfold maxLen;omega,λ_=>⟨g,cur,rfl,hg,h1,λi x hx j u hu=> ?_⟩⟩;have hi:i<64:=by rw[<-hl];exact(List.getElem?_eq_some_iff.1 hx).1
 have hj:j=0:=by
  have:=(List.getElem?_eq_some_iff.1 hu).1;simp[fB] at this;exact this
 subst hj;simp[fB] at hu;subst hu;simpa using h3 i x hi hx
theorem aBl {w:World} {N m r t u c:Nat} {Z:Nat->Prop} {cs:Array Value} {v:Vm} (h:Mo w N Z m r t u c cs v):
 Calls Tryz.prog 63 #[.pointer (some ⟨m,0,none⟩)] w λe w'=>∃g,e=.returned (.slice (some ⟨g,0,none⟩) 64 64)/\Ow fB 1 4 w' w.heap.size (some ⟨g,0,none⟩) 64 64 (dR v)/\Below w.heap.size w w':=by
 have hm:∀w,(Instr.makeSlice 66 (.int .i64 64) (.int .i64 64)).run Tryz.prog w=.ok (.slice (some ⟨w.heap.size,0,none⟩) 64 64) (w.alloc (.cells (oM 64) 4)):=λw=>aHa 64 (by omega) w;have HC:Hid (∀W,Below w.heap.size w W->∀k,k<64->W.cell? ⟨m,3+k,none⟩=some (.int .i64 (v.rf k))/\W.cell? ⟨m,114+k,none⟩=some (.bool (v.fx k))/\m<W.heap.size):=hZ (λW hW k hk=>⟨(hW.cell (p:=⟨m,3+k,none⟩) h.size).trans (h.aBb hk),(hW.cell (p:=⟨m,114+k,none⟩) h.size).trans (h.Dw hk),Nat.lt_of_lt_of_le h.size hW.size⟩);have HT0:Hid (Told (w.alloc (.cells (oM 64) 4)) w.heap.size 0 (dR v)):=hZ ⟨_,Bx.new _ _ _,aDO 64,λi b hi=>absurd hi (by omega),λi hi=>⟨false,aDf 64 i hi⟩⟩;have HB0:=hZ (aD w (.cells (oM 64) 4));have hsz:=h.size;clear h;go_enter Tryz.func63,Tryz.ntmps63;go_wp2;obtain⟨w1,hw1⟩:∃w1,w1=w.alloc (.cells (oM 64) 4):=⟨_,rfl⟩;rw[<-hw1] at HT0 HB0⊢;clear hw1 hm;go_loopw [8] (λi wr=>∃k:Nat,k<=64/\i=.int .i64 k/\Hid (Told wr w.heap.size k (dR v))/\Hid (Below w.heap.size w wr)) (λi _=>64 - (intOf i).toNat)
 case atStart=>exact⟨0,by omega,rfl,HT0,HB0⟩
 case round=>
  obtain⟨k,hk,rfl,HT,HB⟩:=hrel;by_cases hlt:k<64
  ·obtain⟨c1,c2,l1⟩:=HC.out _ HB.out k hlt
   have hki:(k:Int)<64:=by omega
   have hb:=aLo v hlt;have HN:=hZ (λb (e:(dR v)[k]? =some b)=>HT.out.next hlt e);obtain⟨cur,x1,_,_,x4⟩:=HT.out.ex;obtain⟨b0,xb⟩:=x4 k hlt;have c3:wr.cell? ⟨w.heap.size,k,none⟩=some (.bool b0):=(x1.cell k).trans xb;have f3:wr.frozen? ⟨w.heap.size,k,none⟩=false:=x1.free k;have l3:w.heap.size<wr.heap.size:=x1.lt;clear x1 x4 xb HT;generalize v.rf k=R at*;generalize v.fx k=F at*;by_cases hR:0<R
   ·have HB2:Hid ((dR v)[k]? =some (!F)):=hZ (by rw[hb];simp[hR])
    have HT2:=hZ (HN.out _ HB2.out);clear hb;go_wp2
    all_goals
     go_roundw
     case rel=>exact⟨k+1,by omega,by go_num,HT2,hZ (HB.out.setCell (nR _) _)⟩
     case measure=>simp[intOf];omega
   ·have HB2:Hid ((dR v)[k]? =some false):=hZ (by rw[hb];simp[hR])
    have HT2:=hZ (HN.out _ HB2.out);clear hb;go_wp2
    all_goals
     go_roundw
     case rel=>exact⟨k+1,by omega,by go_num,HT2,hZ (HB.out.setCell (nR _) _)⟩
     case measure=>simp[intOf];omega
  ·have hk4:k=64:=by omega
   subst hk4;go_wp2;go_ret;exact⟨_,rfl,HT.out.ow (aIL v) (nR _),HB.out⟩
def eA (K X:Int):Array Value:= #[.int .i64 K,.int .i64 X]
theorem aNv (K X:Int):(eA K X).all (·.oneCell')=true:=by simp[eA,Value.oneCell']
theorem aMR:(Tryz.prog.info? 147).map (·.size)=some 2:=by kernel_rfl
theorem rY {w:World} {N m r t u c:Nat} {Z:Nat->Prop} {cs:Array Value} {v:Vm} (h:Mo w N Z m r t u c cs v) (hb:Bytes v.zs) (k:Nat) (hk:k<4) (page:Int) (hE:lI v.zs (v.ps k).root page=0):
 Calls Tryz.prog 68 #[.pointer (some ⟨m,0,none⟩),.int .i64 k,.int .i64 page] w λe w'=>e=.returned (.agg #[.int .i64 (gF v k page).1,.int .i64 (gF v k page).2])/\Below w.heap.size w w':=by
 have hw0:=aD w (.cells #[.int .i64 0,.int .i64 0] 147);have h1:=h.below hw0;obtain⟨w0,hw⟩:∃w0,w0=w.alloc (.cells #[.int .i64 0,.int .i64 0] 147):=⟨_,rfl⟩;have c0:=h1.uE;have c1:=h1.rE hk;have l0:=h1.size;have HG:=hZ (λW (hW:Below w0.heap.size w0 W)=>aIc (some ⟨r,0,none⟩) 4096 4096 v.zs (v.ps k).root page W _ ((hw▸h1.zY).below hW) hW.size hb (by decide));rw[hE] at HG;show Calls _ _ _ _ λe w'=>e=.returned (.agg #[.int .i64 (j6 v.zs (v.ps k).root page),.int .i64 (j5 v.zs (v.ps k).root page)])/\_;generalize j6 v.zs (v.ps k).root page=K at*;generalize j5 v.zs (v.ps k).root page=X at*;generalize(v.ps k).root=R at*;have lw:w.heap.size<w0.heap.size:=by rw[hw];simp
 have cw:w0.cell? ⟨w.heap.size,0,none⟩=some (.int .i64 0):=by rw[hw];simp[go_sem]
 have cw1:w0.cell? ⟨w.heap.size,1,none⟩=some (.int .i64 0):=by rw[hw];simp[go_sem]
 have fw:w0.frozen? ⟨w.heap.size,0,none⟩=false:=by rw[hw];simp[go_sem]
 have fw1:w0.frozen? ⟨w.heap.size,1,none⟩=false:=by rw[hw];simp[go_sem]
 rw[<-hw] at c0 c1 l0 hw0;have HW0:=hZ hw0;have hki:(k:Int)<4:=by omega
 have hk0:(0:Int)<=(k:Int):=by omega
 clear h h1 hb hE hw0 hk;go_enter Tryz.func68,Tryz.ntmps68;go_wp2;rw[<-hw];clear hw;have gc:∀(d:Nat) (os:Array Obj) (b o:Nat),b<w0.heap.size->(grow (redrawn w0 d) os).cell? ⟨b,o,none⟩=w0.cell? ⟨b,o,none⟩:=λd os b o h=>(below_regrown _ d os).cell (p:=⟨b,o,none⟩) h;have hL1:∀cs',(147,cs')∈ [((147:TypeId),eA K X)]->cs'=eA K X:=λcs' h=>by simpa using h
 refine Iw (H8 w0.heap.size [((147:TypeId),eA K X)]) [dK.call 12 (.tuple #[.agg #[.int .i64 K,.int .i64 X],.int .i64 0]),dK.box 16 147 2 (λcs' h=>by rw[hL1 cs' h];rfl),dK.st 17 16 147 (eA K X) hL1] (by kernel_rfl) (Lf (nR _)) (by kernel_rfl) (by kernel_rfl) ?_;intro V hV;have e12:V 12=.tuple #[.agg #[.int .i64 K,.int .i64 X],.int .i64 0]:=hV 12;obtain⟨nb,e16⟩:∃b,V 16=.pointer (some ⟨b,0,none⟩):=hV 16
 (refine mq rfl rfl ?_;go_big_quiet_step(fail);refine wpQuiet_nil ?_)
 refine mn ⟨m,0,none⟩ (by kernel_rfl) rfl rfl ?_;go_big_quiet_step(fail);refine wpQuiet_nil ?_;iterate 4 (refine mq rfl rfl ?_;go_big_quiet_step(fail);refine wpQuiet_nil ?_)
 refine mn ⟨m,0,none⟩ (by kernel_rfl) rfl rfl ?_;go_big_quiet_step(fail);refine wpQuiet_nil ?_;iterate 5 (refine mq rfl rfl ?_;go_big_quiet_step(fail);refine wpQuiet_nil ?_)
 refine Cv (dK.call 12 _) (by kernel_rfl) rfl (λw' hb hf=> ?_) ?_
 ·refine Jn (f:=113) (args:= #[.slice (some ⟨r,0,none⟩) 4096 4096,.int .i64 R,.int .i64 page]) ?_ (HG.out w' hb)
  go_simp
 go_big_quiet_step(fail);refine wpQuiet_nil ?_;simp only[e12];iterate 3 (refine mq rfl rfl ?_;go_big_quiet_step(fail);refine wpQuiet_nil ?_)
 refine Cv (dK.box 16 147 2 (λcs' h=>by rw[hL1 cs' h];rfl)) (by kernel_rfl) rfl (λw' hb hf=> ?_) ?_
 ·refine oD (w':=w'.alloc (.cells #[.int .i64 0,.int .i64 0] 147)) (v:=.pointer (some ⟨w'.heap.size,0,none⟩)) ?_ (.inl (aD _ _)) ⟨⟨_,rfl⟩,_,_,rfl,hb.size,Bx.new _ _ _,rfl⟩
  go_simp
 go_big_quiet_step(fail);refine wpQuiet_nil ?_;simp only[e16];refine Cv (dK.st 17 16 147 (eA K X) hL1) (by kernel_rfl) rfl (λw' hb hf=> ?_) ?_
 ·obtain⟨b2,z,hab,hag,BA,hz⟩:∃b z,Value.pointer (some ⟨nb,0,none⟩)=.pointer (some ⟨b,0,none⟩)/\w0.heap.size<=b/\Bx w' b 147 z/\z.size=2:=hf _ (List.Mem.head _) (by kernel_rfl)
  cases hab;exact oF aMR nb (eA K X) rfl rfl BA hz rfl (aNv _ _) (.inr ⟨nb,_,eA K X,z,List.mem_cons_self,hag,BA,hz,rfl⟩) ⟨rfl,nb,e16,BA.row _⟩
 go_big_quiet_step(fail);refine wpQuiet_nil ?_
 (refine mq rfl rfl ?_;go_big_quiet_step(fail);refine wpQuiet_nil ?_)
 refine mend ?_;intro w6 hb6 hf;obtain⟨b2,hnb,BN⟩:∃b,V 16=.pointer (some ⟨b,0,none⟩)/\Bx w6 b 147 (eA K X):=hf _ (List.Mem.head _);rw[e16] at hnb;cases hnb;clear hf hV gc e12 e16 hL1;have n0:w6.cell? ⟨nb,0,none⟩=some (.int .i64 K):=(BN.cell 0).trans rfl;have n1:w6.cell? ⟨nb,1,none⟩=some (.int .i64 X):=(BN.cell 1).trans rfl;have lb:=BN.lt;have a0:=(hb6.cell (p:=⟨w.heap.size,0,none⟩) lw).trans cw;have a1:=(hb6.cell (p:=⟨w.heap.size,1,none⟩) lw).trans cw1;have b0:=(hb6.frozen (p:=⟨w.heap.size,0,none⟩) lw).trans fw;have b1:=(hb6.frozen (p:=⟨w.heap.size,1,none⟩) lw).trans fw1;have lw6:w.heap.size<w6.heap.size:=Nat.lt_of_lt_of_le lw hb6.size;have nN:=hZ (HW0.out.trans (hb6.mono HW0.out.size));clear BN hb6 cw cw1 fw fw1 lw c0 c1 l0;go_wp2_with(go_at_call 67;refine(mR _).mono ?_;rintro e w' ⟨rfl,hw⟩;rw[hw];clear hw)
 exact bodyPost_ret (v:=.agg #[.int .i64 K,.int .i64 X]) (by simp[results,Tryz.results68,go_sem,a0,a1,b0,b1,lw6]) rfl ⟨rfl,(nN.out.setCell (nR _) _).setCell (nR _) _⟩
section
theorem Past.keep {b o:Nat} {w w':World} (h:Past w.heap.size b o w w'):bD (λq=>q=b) w w':=by
 obtain⟨u,h⟩:=h;refine⟨h.os,h.tape,h.output,by have:=h.size;simpa[World.setCell] using this,λq hq hne=>(h.block q hq).trans (blk_setCell_other (λe=>hne e.symm))⟩
theorem Past.bx {b o:Nat} {w w':World} {T:TypeId} {cs:Array Value} {x:Value} (h:Past w.heap.size b o w w') (hx:Bx w b T cs) (ho:o<cs.size) (hc:w'.cell? ⟨b,o,none⟩=some x):Bx w' b T (cs.setIfInBounds o x):=by
 obtain⟨u,h⟩:=h;have h1:Bx w' b T (cs.setIfInBounds o u):=(h.block b hx.lt).trans (hx.set o u);rw[h1.cell,Array.getElem?_setIfInBounds_self_of_lt ho] at hc;cases hc;exact h1
theorem one_set {cs:Array Value} {o:Nat} {x:Value} (h:cs.all (·.oneCell')=true) (hx:x.oneCell'=true):(cs.setIfInBounds o x).all (·.oneCell')=true:=by
 rw[Array.all_eq_true] at h⊢;intro i hi;rw[Array.size_setIfInBounds] at hi;rw[Array.getElem_setIfInBounds (by simpa using hi)];split
 ·exact hx
 ·exact h i hi
section
variable {w w':World} {N m r t u c:Nat} {Z:Nat->Prop} {cs:Array Value} {v:Vm}
theorem Mv.set {o:Nat} {x:Value} (h:Mv Z w m r t u c cs v) (hx:x.oneCell'=true):(cs.setIfInBounds o x).size=179/\(cs.setIfInBounds o x).all (·.oneCell')=true/\(∀j,j≠o->(cs.setIfInBounds o x)[j]? =cs[j]?)/\(o<179->(cs.setIfInBounds o x)[o]? =some x):=
 ⟨by rw[Array.size_setIfInBounds];exact h.size,one_set h.one hx,λj hj=>Array.getElem?_setIfInBounds_ne (Ne.symm hj),λho=>Array.getElem?_setIfInBounds_self_of_lt (by rw[h.size];exact ho)⟩
theorem sK {K:aJ} {i:Nat} {x:Value} (h:(kA K)[i]? =some x):i<8:=by
 have:=(Array.getElem?_eq_some_iff.1 h).1;exact this
theorem Mv.aOi {cs':Array Value} {A:Option Addr} {c':Nat} {tl:List iO} (V:Mv Z w m r t u c cs v) (hs:cs'.size=179) (h1:cs'.all (·.oneCell')=true) (hj:∀j,j<68\/69<=j->cs'[j]? =cs[j]?) (hc:cs'[68]? =some (.slice A tl.length c')) (hr:Rw fC 4 w w.heap.size A tl.length tl) (hl:∀b o s,A=some ⟨b,o,s⟩->0<tl.length->kS Z m r t u b):Mv Z w m r t u c cs' { v with tl:=tl } where
 size:=hs
 one:=h1
 iX:=(hj 0 (by omega)).trans V.iX
 tag:=(hj 1 (by omega)).trans V.tag
 free:=by obtain⟨x,q,q2⟩:=V.free;exact⟨x,(hj 2 (by omega)).trans q,q2⟩
 refs:=λi hi=>(hj _ (by omega)).trans (V.refs i hi)
 dev:=by obtain⟨A,c,xs,q,q2⟩:=V.dev;exact⟨A,c,xs,(hj 67 (by omega)).trans q,q2⟩
 vS:=⟨A,c',hc,hr,hl⟩
 live:=λk hk=>(hj _ (by omega)).trans (V.live k hk)
 root:=λk hk=>(hj _ (by omega)).trans (V.root k hk)
 rg:=λk hk=>by obtain⟨x,q,q2⟩:=V.rg k hk;exact⟨x,(hj _ (by omega)).trans q,q2⟩
 ks:=λk hk i x hx=>(hj _ (by have:=sK hx;omega)).trans (V.ks k hk i x hx)
 used:=(hj 113 (by omega)).trans V.used
 fixed:=λi hi=>(hj _ (by omega)).trans (V.fixed i hi)
 hand:=(hj 178 (by omega)).trans V.hand
theorem Mv.aO2 {cs':Array Value} {i:Nat} {b:Bool} (V:Mv Z w m r t u c cs v) (hs:cs'.size=179) (h1:cs'.all (·.oneCell')=true) (hj:∀j,j<114\/178<=j->cs'[j]? =cs[j]?) (hi:i<64) (hj2:∀j,j<64->j≠i->cs'[114+j]? =cs[114+j]?) (hc:cs'[114+i]? =some (.bool b)):Mv Z w m r t u c cs' { v with fx:=dV v.fx i b } where
 size:=hs
 one:=h1
 iX:=(hj 0 (by omega)).trans V.iX
 tag:=(hj 1 (by omega)).trans V.tag
 free:=by obtain⟨x,q,q2⟩:=V.free;exact⟨x,(hj 2 (by omega)).trans q,q2⟩
 refs:=λi hi=>(hj _ (by omega)).trans (V.refs i hi)
 dev:=by obtain⟨A,c,xs,q,q2⟩:=V.dev;exact⟨A,c,xs,(hj 67 (by omega)).trans q,q2⟩
 vS:=by obtain⟨A,c,q,q2⟩:=V.vS;exact⟨A,c,(hj 68 (by omega)).trans q,q2⟩
 live:=λk hk=>(hj _ (by omega)).trans (V.live k hk)
 root:=λk hk=>(hj _ (by omega)).trans (V.root k hk)
 rg:=λk hk=>by obtain⟨x,q,q2⟩:=V.rg k hk;exact⟨x,(hj _ (by omega)).trans q,q2⟩
 ks:=λk hk i x hx=>(hj _ (by have:=sK hx;omega)).trans (V.ks k hk i x hx)
 used:=(hj 113 (by omega)).trans V.used
 fixed:=λj C8=>by
  unfold dV;dsimp only;by_cases e:j=i
  ·subst e;rw[if_pos rfl];exact hc
  ·rw[if_neg e];exact(hj2 j C8 e).trans (V.fixed j C8)
 hand:=(hj 178 (by omega)).trans V.hand
theorem Mv.aO3 {cs':Array Value} {A:Option Addr} {c':Nat} {xs:List lG} {dv:List gT} (V:Mv Z w m r t u c cs v) (hs:cs'.size=179) (h1:cs'.all (·.oneCell')=true) (hj:∀j,j<67\/68<=j->cs'[j]? =cs[j]?) (hc:cs'[67]? =some (.slice A 64 c')) (hr:Rw fS 3 w w.heap.size A 64 xs) (hq:pI (kS Z m r t u) w w.heap.size xs dv) (hl:∀b o s,A=some ⟨b,o,s⟩->kS Z m r t u b):Mv Z w m r t u c cs' { v with dv:=dv } where
 size:=hs
 one:=h1
 iX:=(hj 0 (by omega)).trans V.iX
 tag:=(hj 1 (by omega)).trans V.tag
 free:=by obtain⟨x,q,q2⟩:=V.free;exact⟨x,(hj 2 (by omega)).trans q,q2⟩
 refs:=λi hi=>(hj _ (by omega)).trans (V.refs i hi)
 dev:=⟨A,c',xs,hc,hr,hq,hl⟩
 vS:=by obtain⟨A,c,q,q2⟩:=V.vS;exact⟨A,c,(hj 68 (by omega)).trans q,q2⟩
 live:=λk hk=>(hj _ (by omega)).trans (V.live k hk)
 root:=λk hk=>(hj _ (by omega)).trans (V.root k hk)
 rg:=λk hk=>by obtain⟨x,q,q2⟩:=V.rg k hk;exact⟨x,(hj _ (by omega)).trans q,q2⟩
 ks:=λk hk i x hx=>(hj _ (by have:=sK hx;omega)).trans (V.ks k hk i x hx)
 used:=(hj 113 (by omega)).trans V.used
 fixed:=λi hi=>(hj _ (by omega)).trans (V.fixed i hi)
 hand:=(hj 178 (by omega)).trans V.hand
theorem Mv.aNX {cs':Array Value} {x:Value} {rf:Nat->Int} (V:Mv Z w m r t u c cs v) (hs:cs'.size=179) (h1:cs'.all (·.oneCell')=true) (hj:∀j,j<2\/67<=j->cs'[j]? =cs[j]?) (hc:cs'[2]? =some x) (hb:Bv w x (gJ rf).f) (hf:Ap Z m r t u x/\Ty w x) (hr:∀i,i<64->cs'[3+i]? =some (.int .i64 (rf i))):Mv Z w m r t u c cs' { v with rf:=rf } where
 size:=hs
 one:=h1
 iX:=(hj 0 (by omega)).trans V.iX
 tag:=(hj 1 (by omega)).trans V.tag
 free:=⟨x,hc,hb,hf⟩
 refs:=hr
 dev:=by obtain⟨A,c,xs,q,q2⟩:=V.dev;exact⟨A,c,xs,(hj 67 (by omega)).trans q,q2⟩
 vS:=by obtain⟨A,c,q,q2⟩:=V.vS;exact⟨A,c,(hj 68 (by omega)).trans q,q2⟩
 live:=λk hk=>(hj _ (by omega)).trans (V.live k hk)
 root:=λk hk=>(hj _ (by omega)).trans (V.root k hk)
 rg:=λk hk=>by obtain⟨x,q,q2⟩:=V.rg k hk;exact⟨x,(hj _ (by omega)).trans q,q2⟩
 ks:=λk hk i x hx=>(hj _ (by have:=sK hx;omega)).trans (V.ks k hk i x hx)
 used:=(hj 113 (by omega)).trans V.used
 fixed:=λi hi=>(hj _ (by omega)).trans (V.fixed i hi)
 hand:=(hj 178 (by omega)).trans V.hand
theorem Mv.ps_ {cs':Array Value} {k:Nat} {p:Vp} (V:Mv Z w m r t u c cs v) (hs:cs'.size=179) (h1:cs'.all (·.oneCell')=true) (hj:∀j,j<69\/113<=j->cs'[j]? =cs[j]?) (hk:k<4) (hj2:∀j,j<69+k*11\/69+k*11+11<=j->cs'[j]? =cs[j]?) (hc1:cs'[69+k*11]? =some (.bool p.live)) (hc2:cs'[69+k*11+1]? =some (.int .i64 p.root)) (hc3:∃x,cs'[69+k*11+2]? =some x/\Rt w x p.rg) (hc4:Sub cs' (69+k*11+3) (kA p.ks)):Mv Z w m r t u c cs' { v with ps:=fJ v.ps k p } where
 size:=hs
 one:=h1
 iX:=(hj 0 (by omega)).trans V.iX
 tag:=(hj 1 (by omega)).trans V.tag
 free:=by obtain⟨x,q,q2⟩:=V.free;exact⟨x,(hj 2 (by omega)).trans q,q2⟩
 refs:=λi hi=>(hj _ (by omega)).trans (V.refs i hi)
 dev:=by obtain⟨A,c,xs,q,q2⟩:=V.dev;exact⟨A,c,xs,(hj 67 (by omega)).trans q,q2⟩
 vS:=by obtain⟨A,c,q,q2⟩:=V.vS;exact⟨A,c,(hj 68 (by omega)).trans q,q2⟩
 live:=λj C8=>by
  unfold fJ;dsimp only;by_cases e:j=k
  ·subst e;rw[if_pos rfl];exact hc1
  ·rw[if_neg e];exact(hj2 _ (by omega)).trans (V.live j C8)
 root:=λj C8=>by
  unfold fJ;dsimp only;by_cases e:j=k
  ·subst e;rw[if_pos rfl];exact hc2
  ·rw[if_neg e];exact(hj2 _ (by omega)).trans (V.root j C8)
 rg:=λj C8=>by
  unfold fJ;dsimp only;by_cases e:j=k
  ·subst e;rw[if_pos rfl];exact hc3
  ·rw[if_neg e];obtain⟨x,q,q2⟩:=V.rg j C8;exact⟨x,(hj2 _ (by omega)).trans q,q2⟩
 ks:=λj C8=>by
  unfold fJ;dsimp only;by_cases e:j=k
  ·subst e;rw[if_pos rfl];exact hc4
  ·rw[if_neg e];exact λi x hx=>(hj2 _ (by have:=sK hx;omega)).trans (V.ks j C8 i x hx)
 used:=(hj 113 (by omega)).trans V.used
 fixed:=λi hi=>(hj _ (by omega)).trans (V.fixed i hi)
 hand:=(hj 178 (by omega)).trans V.hand
theorem Mo.vS {A:Option Addr} {c':Nat} {tl:List iO} (h:Mo w N Z m r t u c cs v) (hp:Past w.heap.size m 68 w w') (hc:w'.cell? ⟨m,68,none⟩=some (.slice A tl.length c')) (hr:Rw fC 4 w' w'.heap.size A tl.length tl) (hl:∀b o s,A=some ⟨b,o,s⟩->0<tl.length->w.heap.size<=b):
 ∃cs',Mo w' N Z m r t u c cs' { v with tl:=tl } :=by
 obtain⟨l1,l2,l3,l4⟩:=h.lt;have k:=hp.keep;obtain⟨s1,s2,s3,s4⟩:=h.V.set (o:=68) (x:=.slice A tl.length c') rfl;exact⟨_,h.put (v':= { v with tl:=tl }) k.size (hp.bx h.X (by rw[h.V.size];decide) hc) (λb hb hne=>k.block b hb hne) rfl rfl rfl
  ((h.V' (λb hb hne=>k.block b hb hne) k.size).aOi s1 s2 (λj hj=>s3 j (by omega)) (s4 (by decide)) hr (λb o s e h0=>by have:=hl b o s e h0;exact⟨by omega,by omega,by omega,by omega,λhz=>by have:=h.zl b hz;omega⟩))⟩
end
end
section
def Gv (N:Nat) (Z:Nat->Prop) (m r t:Nat) (v':Vm) (w:World) (e:Ending) (w':World):Prop:=e=.returned (.tuple #[])/\Mr w' N Z m r t v'/\aN N w w'
theorem Bx.bM {N b:Nat} {w w':World} {T:TypeId} {cs:Array Value} (h:Bx w b T cs) (hf:aN N w w') (h1:T≠69) (h2:T≠5) (h3:T≠4):Bx w' b T cs:=hf.2 b T cs h1 h2 h3 h
theorem Past.bM {N m o:Nat} {w w':World} {cs:Array Value} (h:Past w.heap.size m o w w') (hX:Bx w m 69 cs) (hm:N<=m) (hN:N<=w.heap.size):aN N w w':=
 aN.keep h.keep hN λb hb=>by
  obtain rfl:b=m:=hb;exact⟨hm,_,_,.inl rfl,hX⟩
theorem kN.bM {N g:Nat} {w w':World} {T:TypeId} {cur:Array Value} (h:bD (kN (some ⟨g,0,none⟩)) w w') (hX:Bx w g T cur) (hT:T=69\/T=5\/T=4) (hg:N<=g) (hN:N<=w.heap.size):aN N w w':=
 aN.keep h hN λb hb=>by
  unfold kN at hb;injection hb with hb;injection hb with hb;subst hb;exact⟨hg,_,_,hT,hX⟩
theorem aMW {r t:Nat} {w w':World} (h:bD (kN (some ⟨r,0,none⟩)) w w'):bD (λb=>b=r\/b=t) w w':=
 (bD.refl (λb=>b=r\/b=t) w).trans h λb _ hb=>by
   unfold kN at hb;injection hb with hb;injection hb with hb;exact .inl hb.symm
section
variable {w w':World} {N m r t u c:Nat} {Z:Nat->Prop} {cs:Array Value} {v:Vm}
theorem Mo.aE7 {zs':List Int} (h:Mo w N Z m r t u c cs v) (hk:bD (kN (some ⟨r,0,none⟩)) w w') (hr:Own .u8 5 w' N (some ⟨r,0,none⟩) 4096 4096 zs'):Mo w' N Z m r t u c cs { v with zs:=zs' } :=by
 obtain⟨l1,l2,l3,l4⟩:=h.lt;exact h.Rh (aMW hk) hr (h.tag.same (hk.block t l3 λe=>by
  unfold kN at e;injection e with e;injection e with e;exact h.rt e))
theorem Mo.G5 {zs':List Int} (h:Mo w N Z m r t u c cs v) (hk:bD (kN (some ⟨r,0,none⟩)) w w'):aN N w w':=by
 obtain⟨q1,x1⟩:=nI h.iX (by decide);exact kN.bM hk x1 (.inr (.inl rfl)) h.nr h.hN
theorem Mo.tl (h:Mo w N Z m r t u c cs v):Tl w m 68 v.tl:=by
 obtain⟨A,c',h1,h2,_⟩:=h.V.vS;exact⟨A,c',(h.X.cell 68).trans h1,h.X.free 68,h2⟩
end
theorem xG {w:World} {N m r t u c:Nat} {Z:Nat->Prop} {cs:Array Value} {v:Vm} (h:Mo w N Z m r t u c cs v) (hb:Bytes v.zs) (hn:v.tl.length<=1000) (k:Nat) (hk:k<4) (page K X:Int) (hE:nO v.zs (v.ps k).root page K X=0):
 Calls Tryz.prog 69 #[.pointer (some ⟨m,0,none⟩),.int .i64 k,.int .i64 page,.agg #[.int .i64 K,.int .i64 X]] w (Gv N Z m r t (eT v k page K X) w):=by
 have hw0:=aD w (.cells #[.int .i64 K,.int .i64 X] 147);have qI:=Bx.new w 147 #[.int .i64 K,.int .i64 X];have h1:=h.below hw0;have lT:=hZ (aN.of h.hN hw0);obtain⟨w0,hw⟩:∃w0,w0=w.alloc (.cells #[.int .i64 K,.int .i64 X] 147):=⟨_,rfl⟩;rw[<-hw] at h1 hw0 qI lT;have HD:=hZ (aCZ (k:Int) page v.tl m 68 w0 h1.tl hn);have HM:=hZ h1;have HX:=hZ qI;have HB:=hZ hb;have HE:=hZ hE;have hki:(k:Int)<4:=by omega
 have hk0:(0:Int)<=(k:Int):=by omega
 have HK:=hZ hk;have HV:Hid (eT v k page K X= { ({ v with tl:=fF k page v.tl } :Vm) with zs:=jU v.zs (v.ps k).root page K X }):=hZ rfl;have l0:=h1.size;clear h h1 hb hE hw0 hn hk qI;go_enter Tryz.func69,Tryz.ntmps69;go_wp2_with fail
 rw[<-hw];refine HD.out.mono ?_;rintro e w1 ⟨rfl,ho,hp⟩;obtain⟨cs1,h2⟩:∃cs1,Mo w1 N Z m r t u c cs1 { v with tl:=fF k page v.tl } :=by
  obtain⟨x,o1,o2,o3,o4⟩:=ho;obtain⟨A,c',rfl,_,_,o5⟩:=o4.row qE;exact HM.out.vS hp o1 o5 (λb o s e hl=>I9 o4 b o s e hl)
 have HF1:=hZ (lT.out.trans (hp.bM HM.out.X HM.out.nm HM.out.hN));have BX1:=HX.out.bM (hp.bM HM.out.X HM.out.nm HM.out.hN) (by decide) (by decide) (by decide);have lF:=hZ h2;have HW:=hZ (λW (hW:Below w1.heap.size w1 W)=>aE0 (some ⟨r,0,none⟩) 4096 4096 v.zs (v.ps k).root page K X W N ((h2.below hW).iX) (h2.below hW).hN HB.out (by decide));rw[HE.out] at HW;have c0:=h2.uE;have c1:w1.cell? ⟨m,69+k*11+1,none⟩=some (.int .i64 (v.ps k).root):=h2.rE HK.out;have b0:w1.cell? ⟨w.heap.size,0,none⟩=some (.int .i64 K):=(BX1.cell 0).trans rfl;have b1:w1.cell? ⟨w.heap.size,1,none⟩=some (.int .i64 X):=(BX1.cell 1).trans rfl;have lb:=BX1.lt;have l1:=h2.size;generalize jU v.zs (v.ps k).root page K X=ZS at*;generalize(v.ps k).root=R at*;clear ho hp h2 BX1 HD HX hw l0;go_wp2;have gc:∀(d:Nat) (os:Array Obj) (b o:Nat),b<w1.heap.size->(grow (redrawn w1 d) os).cell? ⟨b,o,none⟩=w1.cell? ⟨b,o,none⟩:=λd os b o h=>(below_regrown _ d os).cell (p:=⟨b,o,none⟩) h;refine kD 13 [] (by kernel_rfl) (by kernel_rfl) (by kernel_rfl) ?_;intro V hV;simp only[List.take_succ_cons,List.take_zero,List.drop_succ_cons,List.drop_zero]
 (refine rq rfl rfl ?_;go_big_quiet_step(fail);refine wpQuiet_nil ?_)
 refine rn ⟨m,0,none⟩ (by kernel_rfl) rfl rfl ?_;go_big_quiet_step(fail);refine wpQuiet_nil ?_;iterate 4 (refine rq rfl rfl ?_;go_big_quiet_step(fail);refine wpQuiet_nil ?_)
 refine rn ⟨m,0,none⟩ (by kernel_rfl) rfl rfl ?_;go_big_quiet_step(fail);refine wpQuiet_nil ?_;iterate 4 (refine rq rfl rfl ?_;go_big_quiet_step(fail);refine wpQuiet_nil ?_)
 iterate 2 (refine rq rfl rfl ?_;go_big_quiet_step(fail);refine wpQuiet_nil ?_)
 refine rend ?_;intro w6 hb6 hf;clear hf hV gc c0 c1 b0 b1 l1 lb;have nN:=hZ hb6;have HT6:=hZ (HW.out w6 hb6);clear hb6;go_wp2_with(first
  |(go_at_call 67;refine(mR _).mono ?_;rintro e w' ⟨rfl,hw⟩;rw[hw];clear hw)
  |(go_at_call 115;refine HT6.out.mono ?_;rintro e w7 ⟨rfl,Gw,hk7⟩;have Jp:=hZ Gw;have HK7:=hZ hk7;clear Gw hk7))
 go_end0
 have M6:=lF.out.below nN.out;refine⟨rfl,⟨u,c,cs1,?_⟩,(HF1.out.trans (aN.of lF.out.hN nN.out)).trans (M6.G5 (zs':=ZS) HK7.out)⟩;rw[HV.out];exact M6.aE7 HK7.out Jp.out
end
section
def rP (cs:Array Value):Nat->List Value->Array Value
 |_,[]=>cs
 |o,v::l=>rP (cs.setIfInBounds o v) (o+1) l
theorem Ka:∀(l:List Value) (o:Nat) (cs:Array Value),(rP cs o l).size=cs.size
 | [],_,_=>rfl
 |v::l,o,cs=>by unfold rP;rw[Ka l];simp
theorem D5:∀(l:List Value) (o j:Nat) (cs:Array Value),j<o\/o+l.length<=j->(rP cs o l)[j]? =cs[j]?
 | [],_,_,_,_=>rfl
 |v::l,o,j,cs,h=>by
  simp only[List.length_cons] at h;unfold rP;rw[D5 l _ _ _ (by omega),Array.getElem?_setIfInBounds_ne (by omega)]
theorem V5:∀(l:List Value) (o j:Nat) (cs:Array Value),o+l.length<=cs.size->j<l.length->(rP cs o l)[o+j]? =l[j]?
 | [],_,_,_,_,h=>absurd h (by simp)
 |v::l,o,j,cs,h,hj=>by
  simp only[List.length_cons] at h hj;unfold rP;cases j with
  |zero=>rw[D5 l _ _ _ (by omega),Nat.add_zero,Array.getElem?_setIfInBounds_self_of_lt (by omega)];rfl
  |succ j=>rw[show o+(j+1)=o+1+j by omega,V5 l _ _ _ (by simp;omega) (by omega)];rfl
theorem Q5:∀(l:List Value) (o:Nat) (cs:Array Value),cs.all (·.oneCell')=true->(∀v∈l,v.oneCell'=true)->(rP cs o l).all (·.oneCell')=true
 | [],_,_,h,_=>h
 |v::l,o,cs,h,hl=>by
  unfold rP;exact Q5 l _ _ (one_set h (hl v List.mem_cons_self)) λu hu=>hl u (List.mem_cons_of_mem _ hu)
theorem Bx.cells:∀(l:List Value) (o:Nat) {w:World} {g:Nat} {T:TypeId} {cs:Array Value},Bx w g T cs->Bx (w.setCells g o l) g T (rP cs o l)
 | [],_,_,_,_,_,h=>h
 |v::l,o,w,g,T,cs,h=>Bx.cells l (o+1) (h.set o v)
theorem eU (w:World) (g o:Nat) (l:List Value):bD (λq=>q=g) w (w.setCells g o l):=xL (S:=λq=>q=g) rfl l o w
theorem Bx.there {w:World} {g:Nat} {T:TypeId} {cs:Array Value} (h:Bx w g T cs) {o n:Nat} (hn:o+n<=cs.size):w.there g o n:=λj hj=>by
 refine⟨?_,h.free _⟩;rw[h.cell,Array.getElem?_eq_getElem (by omega)];rfl
section
variable {P:Program} {ops:Array Oper} {rest:List Oper} {dst:Option Tmp} {x y:Operand} {type:TypeId} {pos:String} {after:Array Edge} {guard:Option (Nat×Bool)} {a:Act} {w:World} {Q:Exit->Act->World->Prop}
theorem stM {t T:TypeId} {n:Nat} (hi:(P.info? t).map (·.size)=some n) (g o:Nat) {z:Array Value} (cs:Array Value) (hx:a.eval x=.pointer (some ⟨g,o,none⟩)) (hy:a.eval y=.agg cs) (hz:Bx w g T z) (hs:o+n<=z.size) (hn:cs.size=n) (h1:cs.all (·.oneCell')=true)
 (h:wpList P ops Q rest (a.put dst undef) (w.setCells g o cs.toList)):wpList P ops Q (⟨dst,.store t x y,type,pos,after,none⟩::rest) a w:=
 wpList_store_mid rfl t x y rfl g o cs hx hy (by rw[hn];exact hz.there hs) (by rw[hi,hn]) h1 h
end
def Sp.gen (k:Nat) (sh:Value->Prop) (fa:Value->World->Prop) (hi:∃v,sh v) (hk:∀v w w',fa v w->Below w.heap.size w w'->fa v w'):Sp:=⟨k,sh,fa,hi,hk⟩
structure Hm (w1:World) (x0:Value) (p:Pl) (pc:Array Value) (W:World):Prop where
 v:iY W pc p
 far:∀g,g<w1.heap.size->lV x0 g->∀x,pc[0]? =some x->lV x g
 ty:∀x,pc[0]? =some x->Ty W x
section
variable {w w':World} {N m r t u c:Nat} {Z:Nat->Prop} {cs:Array Value} {v:Vm}
def zI (cs:Array Value):Array Value:=cs.extract 2 67
theorem I8 (cs:Array Value):Sub cs 2 (zI cs):=λi x h=>by
 unfold zI at h;rw[Array.getElem?_extract] at h;split at h
 ·exact h
 ·cases h
theorem Mo.pool (h:Mo w N Z m r t u c cs v):iY w (zI cs) (gJ v.rf)/\∃x,(zI cs)[0]? =some x/\Ap Z m r t u x/\Ty w x:=by
 have hs:=h.V.size;have hsz:(zI cs).size=65:=by unfold zI;rw[Array.size_extract,hs];rfl
 have at_:∀i,i<65->(zI cs)[i]? =cs[2+i]? :=λi hi=>by
  unfold zI;rw[Array.getElem?_extract,hs,if_pos (by omega)]
 obtain⟨x,h1,h2,h3⟩:=h.V.free;refine⟨⟨hsz,⟨x,by rw[at_ 0 (by omega)];exact h1,h2⟩,λi hi=>by rw[at_ (i+1) (by omega),show 2+(i+1)=3+i by omega];exact h.V.refs i hi⟩,x,by rw[at_ 0 (by omega)];exact h1,h3⟩
theorem Ep (hs:cs.size=179):(zI cs).size=65:=by unfold zI;rw[Array.size_extract,hs];rfl
theorem Mo.Q6 {rf:Nat->Int} {pc:Array Value} (h:Mo w N Z m r t u c cs v) (hp:iY w pc (gJ rf)) (hf:∀x,pc[0]? =some x->Ap Z m r t u x/\Ty w x):
 Mo (w.setCells m 2 pc.toList) N Z m r t u c (rP cs 2 pc.toList) { v with rf:=rf } :=by
 have hl:pc.toList.length=65:=by rw[Array.length_toList];exact hp.size
 have hs:=h.V.size;have k:=eU w m 2 pc.toList;have hin:∀j,j<65->(rP cs 2 pc.toList)[2+j]? =pc[j]? :=λj hj=>by
  rw[V5 _ _ _ _ (by rw[hl];omega) (by omega)];simp
 obtain⟨x,h1,h2⟩:=hp.list;have hb2:Bv (w.setCells m 2 pc.toList) x (gJ rf).f:=h2.keeps (P:=λb=>b≠m) (λb hb hne=>k.block b hb hne) k.size λb off s n c e h0=>((hf x h1).1 b off s n c e h0).1;refine h.put (v':= { v with rf:=rf }) k.size (h.X.cells pc.toList 2) (λb hb hne=>k.block b hb hne) rfl rfl rfl
  ((h.V' (λb hb hne=>k.block b hb hne) k.size).aNX (by rw[Ka];exact hs) (Q5 _ _ _ h.V.one λy hy=> ?_) (λj hj=>D5 _ _ _ _ (by omega)) (by rw[<-h1];exact hin 0 (by omega)) hb2 ⟨(hf x h1).1,(hf x h1).2.keeps (P:=λb=>b≠m) (λb hb hne=>k.block b hb hne) λb off s n c e h0=>((hf x h1).1 b off s n c e h0).1⟩ λi hi=>by rw[show 3+i=2+(i+1) by omega,hin (i+1) (by omega)];exact hp.at_ i hi)
 have:=hp.one;rw[Array.all_eq_true] at this;obtain⟨i,hi,rfl⟩:=List.getElem_of_mem hy;exact this i (by simpa using hi)
theorem Mo.aJk {x0:Value} {pc:Array Value} (h:Mo w N Z m r t u c cs v) (hx:Ap Z m r t u x0) (hf:∀g,g<w.heap.size->lV x0 g->∀x,pc[0]? =some x->lV x g):∀y,pc[0]? =some y->Ap Z m r t u y:=λy hy b off s n c e h0=>by
 obtain⟨l1,l2,l3,l4⟩:=h.lt;exact⟨hf m l1 (λb' o' s' n' c' e' k=>(hx b' o' s' n' c' e' k).1) y hy b off s n c e h0,hf r l2 (λb' o' s' n' c' e' k=>(hx b' o' s' n' c' e' k).2.1) y hy b off s n c e h0,
  hf t l3 (λb' o' s' n' c' e' k=>(hx b' o' s' n' c' e' k).2.2.1) y hy b off s n c e h0,hf u l4 (λb' o' s' n' c' e' k=>(hx b' o' s' n' c' e' k).2.2.2.1) y hy b off s n c e h0,
  λhz=>hf b (h.zl b hz) (λb' o' s' n' c' e' k e2=>(hx b' o' s' n' c' e' k).2.2.2.2 (e2▸hz)) y hy b off s n c e h0 rfl⟩
theorem Mo.qU (h:Mo w N Z m r t u c cs v) (hk:bD (λq=>q=m) w w'):aN N w w':=
 aN.keep hk h.hN λb hb=>by
  obtain rfl:b=m:=hb;exact⟨h.nm,_,_,.inl rfl,h.X⟩
theorem Mo.aKo (h:Mo w N Z m r t u c cs v) (hk:bD (λq=>q=u) w w'):aN N w w':=by
 obtain⟨c3,h3⟩:=Kk h.us (by decide);exact aN.keep hk h.hN λb hb=>by
  obtain rfl:b=u:=hb;exact⟨h.nu,_,_,.inr (.inr rfl),h3⟩
theorem Mo.aD6 (h:Mo w N Z m r t u c cs v) {i:Nat} (hi:i<64) (b:Bool):Mo (w.setCell ⟨u,i,none⟩ (.bool b)) N Z m r t u c cs { v with us:=v.us.set i b } :=by
 obtain⟨n1,n2,n3,n4,n5⟩:=h.ne;obtain⟨l1,l2,l3,l4⟩:=h.lt;have ul:v.us.length=64:=h.us.1;obtain⟨cur,x4⟩:=Kk h.us (by decide);have o:∀q,q≠u->(w.setCell ⟨u,i,none⟩ (.bool b)).heap[q]? =w.heap[q]? :=λq hq=>gW w u i (.bool b) q hq;have hsz:w.heap.size<=(w.setCell ⟨u,i,none⟩ (.bool b)).heap.size:=by simp[World.setCell]
 have V:=h.V.keeps (w':=w.setCell ⟨u,i,none⟩ (.bool b)) (λq _ ho=>o q ho.2.2.2.1) (λq cur' hx=>(o q (gP hx x4 (by decide))).trans hx) hsz;refine⟨h.nm,h.nr,h.nt,h.nu,h.rt,λb hz=>Nat.lt_of_lt_of_le (h.zl b hz) hsz,(o m n3).trans h.X,h.iX.same (o r n4),h.tag.same (o t n5),?_,⟨V.size,V.one,V.iX,V.tag,V.free,V.refs,V.dev,V.vS,V.live,V.root,V.rg,V.ks,V.used,V.fixed,V.hand⟩⟩;exact Ow.set1 (fv:=Value.bool) h.us (List.getElem?_eq_getElem (by omega))
end
def MP (w0:World) (x0:Value) (p:Pl) (w w':World):Prop:=Below w0.heap.size w w'/\(∀b T cs,T≠57->Bx w b T cs->Bx w' b T cs)/\∀b z,Bx w b 57 z->z.size=65->Bx w' b 57 z\/∃z',Bx w' b 57 z'/\Hm w0 x0 p z' w'
theorem MP.of {w0 w w':World} {x0:Value} {p:Pl} (hB:w0.heap.size<=w.heap.size) (h:Below w.heap.size w w'):MP w0 x0 p w w':=⟨h.mono hB,λb T cs _ hx=>hx.below h,λb z hx _=>.inl (hx.below h)⟩
theorem aEk (w0:World) (x0:Value) (p:Pl):xC (MP w0 x0 p) w0:=⟨λw=>⟨Below.refl _ _,λ_ _ _ _ h=>h,λ_ _ h _=>.inl h⟩,λw w' h k=>h.trans k.1⟩
theorem Hm.mp {w0 w w':World} {x0:Value} {p q:Pl} {pc:Array Value} (h:Hm w0 x0 q pc w) (k:MP w0 x0 p w w'):Hm w0 x0 q pc w':=by
 have hty:∀x,pc[0]? =some x->∀b off s n c,x=.slice (some ⟨b,off,s⟩) n c->0<n->∃cur,Bx w b 184 cur:=h.ty;obtain⟨x,h1,h2⟩:=h.v.list;have hk:∀b,b<w.heap.size->(∃cur,Bx w b 184 cur)->w'.heap[b]? =w.heap[b]? :=λb _ ⟨cur,hx⟩=>by
  have a:=k.2.1 b _ cur (by decide) hx;unfold Bx at a hx;rw[a,hx]
 exact⟨⟨h.v.size,⟨x,h1,h2.keeps hk k.1.size (hty x h1)⟩,h.v.at_⟩,h.far,λy hy=>(h.ty y hy).keeps hk (hty y hy)⟩
def dK.pool {w0:World} {x0:Value} {p:Pl} (k:Nat):dK (MP w0 x0 p):=⟨k,none,λu=>∃pc,u=.tuple #[.agg pc,.int .i64 0],λ_ u w=>∀pc,u=.tuple #[.agg pc,.int .i64 0]->Hm w0 x0 p pc w,⟨_,#[],rfl⟩,λ_ v w w' h hk pc e=>(h pc e).mp hk⟩
def dK.aFU {w0:World} {x0:Value} {p:Pl} (k:Nat):dK (MP w0 x0 p):=⟨k,none,λu=>∃b,u=.pointer (some ⟨b,0,none⟩),λ_ u w=>∃b z,u=.pointer (some ⟨b,0,none⟩)/\w0.heap.size<=b/\Bx w b 57 z/\z.size=65,⟨.pointer (some ⟨0,0,none⟩),0,rfl⟩,λ_ v w w' h hk=>by
 obtain⟨b,z,e,hb,hx,hz⟩:=h;rcases hk.2.2 b z hx hz with h1|⟨z',h1,h2⟩
 ·exact⟨b,z,e,hb,h1,hz⟩
 ·exact⟨b,z',e,hb,h1,h2.v.size⟩⟩
def dK.stP {w0:World} {x0:Value} {p:Pl} (k d:Nat):dK (MP w0 x0 p):=⟨k,some d,λu=>u=undef,λd _ w=>∃b pc,d=.pointer (some ⟨b,0,none⟩)/\w0.heap.size<=b/\Bx w b 57 pc/\Hm w0 x0 p pc w,⟨undef,rfl⟩,λd v w w' h hk=>by
 obtain⟨b,pc,e,hb,hx,hg⟩:=h;rcases hk.2.2 b pc hx hg.v.size with h1|⟨z',h1,h2⟩
 ·exact⟨b,pc,e,hb,h1,hg.mp hk⟩
 ·exact⟨b,z',e,hb,h1,h2⟩⟩
theorem Hm.stored {w0 w:World} {x0:Value} {p:Pl} {pc z:Array Value} {b:Nat} (h:Hm w0 x0 p pc w) (hx:Bx w b 57 z):Hm w0 x0 p pc (w.setRow b pc):=
 ⟨h.v.row (λy hy b' off mm n' c' e h0=>by
   obtain⟨cur,hx'⟩:=h.ty y hy b' off mm n' c' e h0;exact Gm hx' hx (by decide)) pc,h.far,λy hy=>(h.ty y hy).row hx (by decide) pc⟩
theorem aCa {w0 w:World} {x0:Value} {p:Pl} {pc z:Array Value} {b:Nat} (h:Hm w0 x0 p pc w) (hx:Bx w b 57 z) (hb:w0.heap.size<=b):MP w0 x0 p w (w.setRow b pc):=
 ⟨below_setRow (Below.refl _ _) hb _,λb' T cs hT hx'=>hx'.kQ (λe=>by
   subst e;unfold Bx at hx hx';rw[hx] at hx';injection hx' with e;injection e with _ e;exact hT e.symm) _,λb' z' hx' _=>by
   by_cases e:b'=b
   ·subst e;exact .inr ⟨pc,hx.row _,h.stored hx⟩
   ·exact .inl (hx'.kQ e _)⟩
end
theorem aIv {l:List aH} (h:Rp l):∀x∈l,x.fits:=λx hx=>aB5 (h.1 x hx)
theorem aID (r:Nat->Int):∀x∈(gJ r).f,x.fits:=aIv (vC λn=>r n==0)
theorem aKp {P:Program} {dst:Option Tmp} {T type:TypeId} {pos:String} {after:Array Edge} {guard:Option (Nat×Bool)} {a:Act} {w:World} {cs:Array Value} (h:(zeroValue T).run P w=.ok (.agg cs) w):(execOp a.eval ⟨dst,.alloc T,type,pos,after,guard⟩).run P w=.ok (.value (.pointer (some ⟨w.heap.size,0,none⟩))) (w.alloc (.cells cs T)):=by
 unfold execOp;simp only[Instr.alloc,h,Sem.run_bind,Sem.run_pure,Result.andThen_ok];rfl
def kR (rf:Nat->Int):Prop:=∀i,i<64->0<=rf i/\rf i<=1000
theorem kR.fits {rf:Nat->Int} (h:kR rf):aKk (gJ rf):=⟨aID rf,λn hn=>by have:=h n hn;show eG (rf n);unfold eG;omega⟩
theorem kR.ge {rf:Nat->Int} (h:kR rf):∀n,n<64->0<=rf n:=λn hn=>(h n hn).1
theorem aJq {rf:Nat->Int} (h:kR rf) {f:Nat} (hf:f<64) (h0:rf f≠0):Ro (gJ rf) f=(gJ (aO rf f (rf f -1)),0):=by
 rw[drop_eq,aAU h.ge (by omega) (by omega) (by rw[Int.toNat_natCast];exact h0) (by omega),Int.toNat_natCast];rfl
theorem Qk {Q:Nat->Prop} {w1:World} {ss:List gT} {A:Option Addr} {n:Nat} {W W':World} (h:Ms Q w1 ss A n W) (hb:Below W.heap.size W W'):Ms Q w1 ss A n W':=by
 obtain⟨ys,h1,h2,h3,h4⟩:=h;refine⟨ys,h1.keeps (P:=λ_=>True) (λb hb' _=>hb.block b hb') hb.size (λ_ _ _ _ _=>trivial),?_,h3.trans (hb.mono h3.size),h4⟩;exact⟨h2.1,λi x s hx hs=>by
  have q:=h2.2 i x s hx hs;exact⟨q.r,q.b.keeps (P:=λ_=>True) (λb hb' _=>hb.block b hb') hb.size (λ_ _ _ _ _=>trivial),q.t.keeps (P:=λ_=>True) (λb hb' _=>hb.block b hb') hb.size (λ_ _ _ _ _=>trivial),q.bn,q.tn,q.i,q.q,q.qt⟩⟩
theorem Gp {Q:Nat->Prop} {w W:World} {xs:List lG} {ss:List gT} (h2:pI Q w w.heap.size xs ss) (hb:Below w.heap.size w W):pI Q W W.heap.size xs ss:=
 ⟨h2.1,λi x s hx hs=>by
   have q:=h2.2 i x s hx hs;exact⟨q.r,q.b.keeps (P:=λ_=>True) (λb hb' _=>hb.block b hb') hb.size (λ_ _ _ _ _=>trivial),q.t.keeps (P:=λ_=>True) (λb hb' _=>hb.block b hb') hb.size (λ_ _ _ _ _=>trivial),q.bn,q.tn,q.i,q.q,q.qt⟩⟩
theorem Mo.aBM {w w0:World} {N m r t u c:Nat} {Z:Nat->Prop} {cs:Array Value} {v:Vm} {R:List gT} {A:Option Addr} {c':Nat} (h:Mo w N Z m r t u c cs v) (hl:m<w0.heap.size/\r<w0.heap.size/\t<w0.heap.size/\u<w0.heap.size) (hl0:∀b,Z b->b<w0.heap.size) (hS:Ms (kS Z m r t u) w0 R A 64 w):
 Mo (w.setCell ⟨m,67,none⟩ (.slice A 64 c')) N Z m r t u c (cs.setIfInBounds 67 (.slice A 64 c')) { v with dv:=R } :=by
 obtain⟨ys,h1,h2,h3,h4⟩:=hS;obtain⟨s1,s2,s3,s4⟩:=h.V.set (o:=67) (x:=.slice A 64 c') rfl;have k:∀q,q≠m->(w.setCell ⟨m,67,none⟩ (.slice A 64 c')).heap[q]? =w.heap[q]? :=λq hq=>gW w m 67 _ q hq;have hs:w.heap.size<=(w.setCell ⟨m,67,none⟩ (.slice A 64 c')).heap.size:=by simp[World.setCell]
 have hA:∀b o s,A=some ⟨b,o,s⟩->kS Z m r t u b:=λb o s e=>by
  have:=h4 b o s e (by decide);obtain⟨a1,a2,a3,a4⟩:=hl;exact⟨by omega,by omega,by omega,by omega,λhz=>by have:=hl0 b hz;omega⟩
 refine h.put (v':= { v with dv:=R }) hs (yV h.X) (λb _ hne=>k b hne) rfl rfl rfl ((h.V' (λb _ hne=>k b hne) hs).aO3 s1 s2 (λj hj=>s3 j (by omega)) (s4 (by decide)) (xs:=ys) ?_ ?_ hA)
 ·exact h1.keeps (P:=kS Z m r t u) (λb _ ho=>k b ho.1) hs (λb o s e _=>hA b o s e)
 ·refine⟨h2.1,λi x s hx hs'=> ?_⟩
  have q:=h2.2 i x s hx hs';exact⟨q.r,q.b.keeps (P:=kS Z m r t u) (λb _ ho=>k b ho.1) hs q.q,q.t.keeps (P:=kS Z m r t u) (λb _ ho=>k b ho.1) hs q.qt,q.bn,q.tn,q.i,q.q,q.qt⟩
theorem Mo.P9 {w:World} {N m r t u c:Nat} {Z:Nat->Prop} {cs:Array Value} {v:Vm} (h:Mo w N Z m r t u c cs v):∃A c xs,w.cell? ⟨m,67,none⟩=some (.slice A 64 c)/\Rw fS 3 w w.heap.size A 64 xs/\pI (kS Z m r t u) w w.heap.size xs v.dv:=by
 obtain⟨A,c,xs,h1,h2,h3,_⟩:=h.V.dev;exact⟨A,c,xs,(h.X.cell 67).trans h1,h2,h3⟩
theorem Mo.dvl {w:World} {N m r t u c:Nat} {Z:Nat->Prop} {cs:Array Value} {v:Vm} (h:Mo w N Z m r t u c cs v):v.dv.length=64:=by
 obtain⟨A,c,xs,_,h2,h3⟩:=h.P9;rw[<-h3.1];exact h2.1
theorem x8 {w:World} {N m r t u c:Nat} {Z:Nat->Prop} {cs:Array Value} {v:Vm} (h:Mo w N Z m r t u c cs v) (hr:kR v.rf) {f:Nat} (hf:f<64) (h0:v.rf f≠0):
 Calls Tryz.prog 70 #[.pointer (some ⟨m,0,none⟩),.agg #[.int .i64 1,.int .i64 f]] w (Gv N Z m r t (bO v 1 f) w):=by
 have hw0:=aD w (.cells #[.int .i64 1,.int .i64 f] 147);have qI:=Bx.new w 147 #[.int .i64 1,.int .i64 f];have h1:=h.below hw0;have lT:=hZ (aN.of h.hN hw0);obtain⟨w0,hw⟩:∃w0,w0=w.alloc (.cells #[.int .i64 1,.int .i64 f] 147):=⟨_,rfl⟩;rw[<-hw] at h1 hw0 qI lT;have HM:=hZ h1;have HX:=hZ h1.X;have HEB:=hZ qI;obtain⟨hpv,x0,hx0,uV⟩:=h1.pool;have HX0:=hZ hx0;have Lx:=hZ uV;have iC:=hZ (Ep h1.V.size);have uJ:=hZ h1.V.size;have iZ:=hZ (λW (hW:Below w0.heap.size w0 W)=>aLU (hpv.below hW) hr.fits (f:Int));rw[aJq hr hf h0] at iZ;have Tk:Hid (bO v 1 f= { ({ v with rf:=aO v.rf f (v.rf f -1) } :Vm) with us:=if v.rf f -1=0 then v.us.set f false else v.us }):=hZ (by unfold bO;simp);obtain⟨RF,hRF⟩:∃RF,RF=aO v.rf f (v.rf f -1):=⟨_,rfl⟩;rw[<-hRF] at iZ Tk;have Hr:Hid (RF=aO v.rf f (v.rf f -1)):=hZ hRF;have e0:w0.cell? ⟨w.heap.size,0,none⟩=some (.int .i64 1):=(qI.cell 0).trans rfl;have e1:w0.cell? ⟨w.heap.size,1,none⟩=some (.int .i64 f):=(qI.cell 1).trans rfl;have le:=qI.lt;have l0:=h1.size;have hfi:(f:Int)<64:=by omega
 have hf0:(0:Int)<=(f:Int):=by omega
 have Fx:=hZ hf;clear h h1 hr hw0 qI hpv hx0 uV hRF h0 hf;go_enter Tryz.func70,Tryz.ntmps70;go_wp2;rw[<-hw];clear hw;have gc:∀(d:Nat) (os:Array Obj) (b o:Nat),b<w0.heap.size->(grow (redrawn w0 d) os).cell? ⟨b,o,none⟩=w0.cell? ⟨b,o,none⟩:=λd os b o h=>(below_regrown _ d os).cell (p:=⟨b,o,none⟩) h;refine Iw (MP w0 x0 (gJ RF)) [dK.pool 6,dK.aFU 10,dK.stP 11 10] (by kernel_rfl) (aEk _ _ _) (by kernel_rfl) (by kernel_rfl) ?_;intro V hV;obtain⟨pc,e6⟩:∃pc,V 6=.tuple #[.agg pc,.int .i64 0]:=hV 6;obtain⟨nb,e10⟩:∃b,V 10=.pointer (some ⟨b,0,none⟩):=hV 10
 (refine mq rfl rfl ?_;go_big_quiet_step(fail);refine wpQuiet_nil ?_)
 refine mn ⟨m,0,none⟩ (by kernel_rfl) rfl rfl ?_;go_big_quiet_step(fail);refine wpQuiet_nil ?_
 (refine mq rfl rfl ?_;go_big_quiet_step(fail);refine wpQuiet_nil ?_)
 refine mf (.agg (zI cs)) (by kernel_rfl) rfl (λw' hb hf=>nU rfl (lN Tryz.underlying57 rfl qB (HX.out.below hb) (I8 cs) iC.out)) ?_;go_big_quiet_step(fail);refine wpQuiet_nil ?_;iterate 2 (refine mq rfl rfl ?_;go_big_quiet_step(fail);refine wpQuiet_nil ?_)
 refine Cv (dK.pool 6) (by kernel_rfl) rfl (λw' hb hf=> ?_) ?_
 ·refine pU (f:=116) (args:= #[.agg (zI cs),.int .i64 f]) ?_ ((iZ.out w' hb).mono ?_)
  ·go_simp
  ·rintro e W ⟨pc',rfl,hpl,Xc,htk,hbw⟩
   exact⟨_,rfl,MP.of hb.size hbw,⟨pc',rfl⟩,λpc2 e2=>by cases e2;exact⟨hpl,λg hg hfx x hx=>Xc g (Nat.lt_of_lt_of_le hg hb.size) (λv hv=>by rw[HX0.out] at hv;cases hv;exact hfx) x hx,htk λx hx=>by rw[HX0.out] at hx;cases hx;exact Lx.out.2.below hb⟩⟩
 go_big_quiet_step(fail);refine wpQuiet_nil ?_;simp only[e6];iterate 3 (refine mq rfl rfl ?_;go_big_quiet_step(fail);refine wpQuiet_nil ?_)
 refine Cv (dK.aFU 10) (by kernel_rfl) rfl (λw' hb hf=> ?_) ?_
 ·refine oD (w':=w'.alloc (.cells zP 57)) (v:=.pointer (some ⟨w'.heap.size,0,none⟩)) (aKp (zvP _)) (MP.of hb.size (aD _ _)) ⟨⟨_,rfl⟩,_,_,rfl,hb.size,Bx.new _ _ _,dU⟩
 go_big_quiet_step(fail);refine wpQuiet_nil ?_;simp only[e10];refine Cv (dK.stP 11 10) (by kernel_rfl) rfl (λw' hb hf=> ?_) ?_
 ·have G:Hm w0 x0 (gJ RF) pc w':=hf _ (List.Mem.tail _ (List.Mem.head _)) (by kernel_rfl) pc rfl
  obtain⟨b2,z,hab,hag,BA,hz⟩:∃b z,Value.pointer (some ⟨nb,0,none⟩)=.pointer (some ⟨b,0,none⟩)/\w0.heap.size<=b/\Bx w' b 57 z/\z.size=65:=hf _ (List.Mem.head _) (by kernel_rfl);cases hab;exact oF qB nb pc rfl rfl BA hz G.v.size G.v.one (aCa G BA hag) ⟨rfl,nb,pc,e10,hag,BA.row _,G.stored BA⟩
 go_big_quiet_step(fail);refine wpQuiet_nil ?_
 (refine mq rfl rfl ?_;go_big_quiet_step(fail);refine wpQuiet_nil ?_)
 refine mend ?_;intro w6 hb6 hf;obtain⟨b2,pd,hnb,hgb,BN,G6⟩:∃b pc,V 10=.pointer (some ⟨b,0,none⟩)/\w0.heap.size<=b/\Bx w6 b 57 pc/\Hm w0 x0 (gJ RF) pc w6:=hf _ (List.Mem.head _);rw[e10] at hnb;cases hnb;clear hf hV gc e6 e10;have Nh:=hZ G6;have BN7:=hZ BN;have zH:=hZ hb6;clear G6 BN hb6 hgb;have qG:=hZ Nh.out.v.size;have Df:=hZ Nh.out.v.one;have M7:=hZ (HM.out.below zH.out);have xY:Hid (∀y,pd[0]? =some y->Ap Z m r t u y/\Ty w6 y):=hZ (λy hy=>⟨HM.out.aJk Lx.out.1 Nh.out.far y hy,Nh.out.ty y hy⟩);have M8:Hid (Mo (w6.setCells m 2 pd.toList) N Z m r t u c (rP cs 2 pd.toList) { v with rf:=RF }):=hZ (M7.out.Q6 Nh.out.v xY.out);have F8:Hid (aN N w (w6.setCells m 2 pd.toList)):=hZ ((lT.out.trans (aN.of HM.out.hN zH.out)).trans (M7.out.qU (eU _ _ _ _)));have N8:Hid (Bx (w6.setCells m 2 pd.toList) nb 57 pd):=hZ (BN7.out.bM (M7.out.qU (eU _ _ _ _)) (by decide) (by decide) (by decide));have E8:Hid (Bx (w6.setCells m 2 pd.toList) w.heap.size 147 #[.int .i64 1,.int .i64 f]):=hZ ((HEB.out.below zH.out).bM (M7.out.qU (eU _ _ _ _)) (by decide) (by decide) (by decide));obtain⟨w8,hw8⟩:∃w8,w8=w6.setCells m 2 pd.toList:=⟨_,rfl⟩;rw[<-hw8] at M8 F8 N8 E8;have HW8:=hZ hw8;have c8:=M8.out.Qf;have p8:w8.cell? ⟨nb,1+f,none⟩=some (.int .i64 (RF f)):=by rw[N8.out.cell,Nat.add_comm];exact Nh.out.v.at_ f Fx.out
 have e80:w8.cell? ⟨w.heap.size,1,none⟩=some (.int .i64 f):=(E8.out.cell 1).trans rfl;have l8:=M8.out.size;have le8:=E8.out.lt;have ln8:=N8.out.lt;have ln7:=BN7.out.lt;have lb7:w.heap.size<w6.heap.size:=Nat.lt_of_lt_of_le le zH.out.size;have lm7:m<w6.heap.size:=M7.out.size;clear hw8 e0 e1 l0 le;have HR2:Hid (RF f=v.rf f -1):=hZ (by rw[Hr.out];unfold aO;rw[if_pos rfl]);by_cases hz:RF f=0
 ·rw[hz] at p8
  have HZ:=hZ hz;have hgu:Hid (Ow fB 1 4 w8 N (some ⟨u,0,none⟩) 64 c v.us):=hZ M8.out.us;clear hz;go_wp2_with(first
   |((with_reducible refine uR nb ?_ BN7.out qG.out ?_);rfl)
   |((with_reducible refine stM qB m 2 pd ?_ ?_ M7.out.X ?_ qG.out Df.out ?_);rfl;rfl;exact(by rw[uJ.out];decide);rw[<-HW8.out])
   |(go_at_call 67;refine(mR _).mono ?_;rintro e w' ⟨rfl,hw⟩;rw[hw];clear hw))
  refine kD 7 [] (by kernel_rfl) (by kernel_rfl) (by kernel_rfl) ?_;intro V hV;have gc:∀(d:Nat) (os:Array Obj) (b o:Nat),b<w8.heap.size->(grow (redrawn w8 d) os).cell? ⟨b,o,none⟩=w8.cell? ⟨b,o,none⟩:=λd os b o h=>(below_regrown _ d os).cell (p:=⟨b,o,none⟩) h;simp only[List.take_succ_cons,List.take_zero,List.drop_succ_cons,List.drop_zero]
  (refine rq rfl rfl ?_;go_big_quiet_step(fail);refine wpQuiet_nil ?_)
  refine rn ⟨m,0,none⟩ (by kernel_rfl) rfl rfl ?_;go_big_quiet_step(fail);refine wpQuiet_nil ?_;iterate 5 (refine rq rfl rfl ?_;go_big_quiet_step(fail);refine wpQuiet_nil ?_)
  refine rend ?_;intro w9 bC hf;clear hf hV gc;have M9:=hZ (M8.out.below bC);have F9:=hZ (F8.out.trans (aN.of M8.out.hN bC));obtain⟨cur,xu⟩:=Kk M9.out.us (by decide);obtain⟨b0,xb⟩:∃b,cur[f]? =some (.bool b):=by
   obtain⟨g',cur',e,_,hh,hc⟩:=M9.out.us.2.2.2 (by decide);injection e with e;injection e with e;subst e;obtain rfl:=(Zn xu hh).2;have Wx:v.us.length=64:=M9.out.us.1;have q:=hc f (v.us[f]'(by rw[Wx];exact Fx.out)) (List.getElem?_eq_getElem _) 0 _ rfl;exact⟨_,by simpa using q⟩
  have cu:w9.cell? ⟨u,f,none⟩=some (.bool b0):=(xu.cell f).trans xb;have fu:=xu.free f;have lu:=xu.lt;clear xu xb bC p8 c8 e80 l8 le8 ln8 ln7 lb7 lm7;go_wp2
  go_end0
  have Ho:=M9.out.aD6 Fx.out false;refine⟨rfl,⟨u,c,rP cs 2 pd.toList,?_⟩,F9.out.trans (M9.out.aKo ((bD.refl (λq=>q=u) w9).cell (.inl rfl) _ _))⟩;rw[Tk.out,if_pos (by rw[<-HR2.out];exact HZ.out)];exact Ho
 ·have hzb:(RF f==0)=false:=by rw[beq_eq_false_iff_ne];exact hz
  have HZ:=hZ hz;clear hz;go_wp2_with(first
   |((with_reducible refine uR nb ?_ BN7.out qG.out ?_);rfl)
   |((with_reducible refine stM qB m 2 pd ?_ ?_ M7.out.X ?_ qG.out Df.out ?_);rfl;rfl;exact(by rw[uJ.out];decide);rw[<-HW8.out])
   |(go_at_call 67;refine(mR _).mono ?_;rintro e w' ⟨rfl,hw⟩;rw[hw];clear hw))
  go_end0
  refine⟨rfl,⟨u,c,rP cs 2 pd.toList,?_⟩,F8.out⟩;rw[Tk.out,if_neg (by rw[<-HR2.out];exact HZ.out)];exact M8.out
theorem Vu {w:World} {N m r t u c:Nat} {Z:Nat->Prop} {cs:Array Value} {v:Vm} (h:Mo w N Z m r t u c cs v) (X:Int):
 Calls Tryz.prog 70 #[.pointer (some ⟨m,0,none⟩),.agg #[.int .i64 0,.int .i64 X]] w (Gv N Z m r t (bO v 0 X) w):=by
 have hw0:=aD w (.cells #[.int .i64 0,.int .i64 X] 147);have HM:=hZ (h.below hw0);have lT:=hZ (aN.of h.hN hw0);have hV:bO v 0 X=v:=by unfold bO;simp
 have HV:=hZ hV;clear h hw0 hV;go_enter Tryz.func70,Tryz.ntmps70;go_wp2
 go_end0
 refine⟨rfl,⟨u,c,cs,?_⟩,lT.out⟩;rw[HV.out];exact HM.out
theorem Z8 {w:World} {N m r t u c:Nat} {Z:Nat->Prop} {cs:Array Value} {v:Vm} (h:Mo w N Z m r t u c cs v) (X:Int) {s:gT} (hs:uQ v.dv X s):
 Calls Tryz.prog 70 #[.pointer (some ⟨m,0,none⟩),.agg #[.int .i64 2,.int .i64 X]] w (Gv N Z m r t (bO v 2 X) w):=by
 have hw0:=aD w (.cells #[.int .i64 2,.int .i64 X] 147);have qI:=Bx.new w 147 #[.int .i64 2,.int .i64 X];have h1:=h.below hw0;have lT:=hZ (aN.of h.hN hw0);obtain⟨w0,hw⟩:∃w0,w0=w.alloc (.cells #[.int .i64 2,.int .i64 X] 147):=⟨_,rfl⟩;rw[<-hw] at h1 hw0 qI lT;have HM:=hZ h1;obtain⟨A,c2,xs,cd,hz,hq⟩:=h1.P9;obtain⟨R,hR⟩:∃R,R=v.dv.set X.toNat (bump s (-1)):=⟨_,rfl⟩;have hRl:R.length=64:=by rw[hR,List.length_set];exact h1.dvl
 have iZ:=hZ (λW (hW:Below w0.heap.size w0 W)=>aGT (Q:=kS Z m r t u) A 64 c2 xs v.dv X W (hz.keeps (P:=λ_=>True) (λb hb' _=>hW.block b hb') hW.size (λ_ _ _ _ _=>trivial)) (Gp hq hW) (by decide) 0 R (.inr ⟨s,hs,rfl,hR⟩));have Tk:Hid (bO v 2 X= { v with dv:=R }):=hZ (by
  have e:v.dv.getD X.toNat default=s:=by
   obtain⟨_,e,_⟩:=hs;simp[List.getD,e]
  unfold bO;rw[e,hR];simp)
 have De:=hZ hRl;have e0:w0.cell? ⟨w.heap.size,0,none⟩=some (.int .i64 2):=(qI.cell 0).trans rfl;have e1:w0.cell? ⟨w.heap.size,1,none⟩=some (.int .i64 X):=(qI.cell 1).trans rfl;have le:=qI.lt;have l0:=h1.size;clear h h1 hs hw0 qI hz hq hR hRl;go_enter Tryz.func70,Tryz.ntmps70;go_wp2;rw[<-hw];clear hw;have gc:∀(d:Nat) (os:Array Obj) (b o:Nat),b<w0.heap.size->(grow (redrawn w0 d) os).cell? ⟨b,o,none⟩=w0.cell? ⟨b,o,none⟩:=λd os b o h=>(below_regrown _ d os).cell (p:=⟨b,o,none⟩) h;refine fK [Sp.gen 6 (λu=>∃A c',u=.tuple #[.slice A 64 c',.int .i64 0]) (λv W=>∀A c',v=.tuple #[.slice A 64 c',.int .i64 0]->Ms (kS Z m r t u) w0 R A 64 W) ⟨_,none,0,rfl⟩ (λv W W' h hb A c' e=>Qk (h A c' e) hb)] (by kernel_rfl) (by kernel_rfl) ?_;intro V hV;obtain⟨A6,c6,e6⟩:∃A c',V 6=.tuple #[.slice A 64 c',.int .i64 0]:=hV 6
 (refine rq rfl rfl ?_;go_big_quiet_step(fail);refine wpQuiet_nil ?_)
 refine rn ⟨m,0,none⟩ (by kernel_rfl) rfl rfl ?_;go_big_quiet_step(fail);refine wpQuiet_nil ?_;iterate 4 (refine rq rfl rfl ?_;go_big_quiet_step(fail);refine wpQuiet_nil ?_)
 refine mQ (Sp.gen 6 _ _ _ _) (by kernel_rfl) rfl (λw' hb hf=> ?_) ?_
 ·refine bY (f:=117) (args:= #[.slice A 64 c2,.int .i64 X]) ?_ ((iZ.out w' hb).mono ?_)
  ·go_simp
  ·rintro e W ⟨A',n',c',rfl,hg⟩
   obtain⟨ys,g1,g2,g3,g4⟩:=hg;obtain rfl:n'=64:=by rw[<-g1.1,g2.1];exact De.out
   refine⟨_,rfl,g3,⟨A',c',rfl⟩,λA2 c2 e2=> ?_⟩;cases e2;exact⟨ys,g1,g2,hb.trans (g3.mono hb.size),λb o s e h0=>Nat.le_trans hb.size (g4 b o s e h0)⟩
 go_big_quiet_step(fail);refine wpQuiet_nil ?_;simp only[e6];iterate 5 (refine rq rfl rfl ?_;go_big_quiet_step(fail);refine wpQuiet_nil ?_)
 refine rend ?_;intro w6 hb6 hf;have hg:Ms (kS Z m r t u) w0 R A6 64 w6:=hf _ (List.Mem.head _) A6 c6 rfl;have HG:=hZ hg;have M6:=hZ (HM.out.below hb6);have F6:=hZ (lT.out.trans (aN.of HM.out.hN hb6));obtain⟨Ad,cd',_,cd6,_,_⟩:=M6.out.P9;have fd6:=M6.out.X.free 67;have l6:=M6.out.size;clear hf hV gc e6 hg hb6 e0 e1 l0 le cd;go_wp2_with(go_at_call 67;refine(mR _).mono ?_;rintro e w' ⟨rfl,hw⟩;rw[hw];clear hw)
 go_end0
 have M7:=M6.out.aBM (c':=c6) HM.out.lt HM.out.zl HG.out;refine⟨rfl,⟨u,c,cs.setIfInBounds 67 (.slice A6 64 c6),?_⟩,F6.out.trans (M6.out.qU ((bD.refl (λq=>q=m) w6).cell (.inl rfl) _ _))⟩;rw[Tk.out];exact M7
theorem aGP {rf:Nat->Int} (h:kR rf) {f:Nat} (hf:f<64) (h0:rf f≠0) (h4:rf f<4):I7 (gJ rf) f=(gJ (aO rf f (rf f+1)),0):=by
 rw[aIp,aAU h.ge (by omega) (by omega) (by rw[Int.toNat_natCast];exact h0) (by rw[Int.toNat_natCast];omega),Int.toNat_natCast]
theorem aDw {w:World} {N m r t u c:Nat} {Z:Nat->Prop} {cs:Array Value} {v:Vm} (h:Mo w N Z m r t u c cs v) (hr:kR v.rf) {f:Nat} (hf:f<64) (h0:v.rf f≠0) (h4:v.rf f<4):
 Calls Tryz.prog 79 #[.pointer (some ⟨m,0,none⟩),.agg #[.int .i64 1,.int .i64 f]] w (Gv N Z m r t (kE v 1 f) w):=by
 have hw0:=aD w (.cells #[.int .i64 1,.int .i64 f] 147);have qI:=Bx.new w 147 #[.int .i64 1,.int .i64 f];have h1:=h.below hw0;have lT:=hZ (aN.of h.hN hw0);obtain⟨w0,hw⟩:∃w0,w0=w.alloc (.cells #[.int .i64 1,.int .i64 f] 147):=⟨_,rfl⟩;rw[<-hw] at h1 hw0 qI lT;have HM:=hZ h1;have HX:=hZ h1.X;have HEB:=hZ qI;obtain⟨hpv,x0,hx0,uV⟩:=h1.pool;have HX0:=hZ hx0;have Lx:=hZ uV;have iC:=hZ (Ep h1.V.size);have uJ:=hZ h1.V.size;have iZ:=hZ (λW (hW:Below w0.heap.size w0 W)=>aKV (hpv.below hW) hr.fits.1 (f:Int));rw[aGP hr hf h0 h4] at iZ;clear h4;have Tk:Hid (kE v 1 f= { v with rf:=aO v.rf f (v.rf f+1) }):=hZ (by unfold kE;simp);obtain⟨RF,hRF⟩:∃RF,RF=aO v.rf f (v.rf f+1):=⟨_,rfl⟩;rw[<-hRF] at iZ Tk;have Hr:Hid (RF=aO v.rf f (v.rf f+1)):=hZ hRF;have e0:w0.cell? ⟨w.heap.size,0,none⟩=some (.int .i64 1):=(qI.cell 0).trans rfl;have e1:w0.cell? ⟨w.heap.size,1,none⟩=some (.int .i64 f):=(qI.cell 1).trans rfl;have le:=qI.lt;have l0:=h1.size;have hfi:(f:Int)<64:=by omega
 have hf0:(0:Int)<=(f:Int):=by omega
 have Fx:=hZ hf;clear h h1 hr hw0 qI hpv hx0 uV hRF h0 hf;go_enter Tryz.func79,Tryz.ntmps79;go_wp2;rw[<-hw];clear hw;have gc:∀(d:Nat) (os:Array Obj) (b o:Nat),b<w0.heap.size->(grow (redrawn w0 d) os).cell? ⟨b,o,none⟩=w0.cell? ⟨b,o,none⟩:=λd os b o h=>(below_regrown _ d os).cell (p:=⟨b,o,none⟩) h;refine Iw (MP w0 x0 (gJ RF)) [dK.pool 6,dK.aFU 10,dK.stP 11 10] (by kernel_rfl) (aEk _ _ _) (by kernel_rfl) (by kernel_rfl) ?_;intro V hV;obtain⟨pc,e6⟩:∃pc,V 6=.tuple #[.agg pc,.int .i64 0]:=hV 6;obtain⟨nb,e10⟩:∃b,V 10=.pointer (some ⟨b,0,none⟩):=hV 10
 (refine mq rfl rfl ?_;go_big_quiet_step(fail);refine wpQuiet_nil ?_)
 refine mn ⟨m,0,none⟩ (by kernel_rfl) rfl rfl ?_;go_big_quiet_step(fail);refine wpQuiet_nil ?_
 (refine mq rfl rfl ?_;go_big_quiet_step(fail);refine wpQuiet_nil ?_)
 refine mf (.agg (zI cs)) (by kernel_rfl) rfl (λw' hb hf=>nU rfl (lN Tryz.underlying57 rfl qB (HX.out.below hb) (I8 cs) iC.out)) ?_;go_big_quiet_step(fail);refine wpQuiet_nil ?_;iterate 2 (refine mq rfl rfl ?_;go_big_quiet_step(fail);refine wpQuiet_nil ?_)
 refine Cv (dK.pool 6) (by kernel_rfl) rfl (λw' hb hf=> ?_) ?_
 ·refine pU (f:=122) (args:= #[.agg (zI cs),.int .i64 f]) ?_ ((iZ.out w' hb).mono ?_)
  ·go_simp
  ·rintro e W ⟨pc',rfl,hpl,Xc,htk,hbw⟩
   exact⟨_,rfl,MP.of hb.size hbw,⟨pc',rfl⟩,λpc2 e2=>by cases e2;exact⟨hpl,λg hg hfx x hx=>Xc g (Nat.lt_of_lt_of_le hg hb.size) (λv hv=>by rw[HX0.out] at hv;cases hv;exact hfx) x hx,htk λx hx=>by rw[HX0.out] at hx;cases hx;exact Lx.out.2.below hb⟩⟩
 go_big_quiet_step(fail);refine wpQuiet_nil ?_;simp only[e6];iterate 3 (refine mq rfl rfl ?_;go_big_quiet_step(fail);refine wpQuiet_nil ?_)
 refine Cv (dK.aFU 10) (by kernel_rfl) rfl (λw' hb hf=> ?_) ?_
 ·refine oD (w':=w'.alloc (.cells zP 57)) (v:=.pointer (some ⟨w'.heap.size,0,none⟩)) (aKp (zvP _)) (MP.of hb.size (aD _ _)) ⟨⟨_,rfl⟩,_,_,rfl,hb.size,Bx.new _ _ _,dU⟩
 go_big_quiet_step(fail);refine wpQuiet_nil ?_;simp only[e10];refine Cv (dK.stP 11 10) (by kernel_rfl) rfl (λw' hb hf=> ?_) ?_
 ·have G:Hm w0 x0 (gJ RF) pc w':=hf _ (List.Mem.tail _ (List.Mem.head _)) (by kernel_rfl) pc rfl
  obtain⟨b2,z,hab,hag,BA,hz⟩:∃b z,Value.pointer (some ⟨nb,0,none⟩)=.pointer (some ⟨b,0,none⟩)/\w0.heap.size<=b/\Bx w' b 57 z/\z.size=65:=hf _ (List.Mem.head _) (by kernel_rfl);cases hab;exact oF qB nb pc rfl rfl BA hz G.v.size G.v.one (aCa G BA hag) ⟨rfl,nb,pc,e10,hag,BA.row _,G.stored BA⟩
 go_big_quiet_step(fail);refine wpQuiet_nil ?_
 (refine mq rfl rfl ?_;go_big_quiet_step(fail);refine wpQuiet_nil ?_)
 refine mend ?_;intro w6 hb6 hf;obtain⟨b2,pd,hnb,hgb,BN,G6⟩:∃b pc,V 10=.pointer (some ⟨b,0,none⟩)/\w0.heap.size<=b/\Bx w6 b 57 pc/\Hm w0 x0 (gJ RF) pc w6:=hf _ (List.Mem.head _);rw[e10] at hnb;cases hnb;clear hf hV gc e6 e10;have Nh:=hZ G6;have BN7:=hZ BN;have zH:=hZ hb6;clear G6 BN hb6 hgb;have qG:=hZ Nh.out.v.size;have Df:=hZ Nh.out.v.one;have M7:=hZ (HM.out.below zH.out);have xY:Hid (∀y,pd[0]? =some y->Ap Z m r t u y/\Ty w6 y):=hZ (λy hy=>⟨HM.out.aJk Lx.out.1 Nh.out.far y hy,Nh.out.ty y hy⟩);have M8:Hid (Mo (w6.setCells m 2 pd.toList) N Z m r t u c (rP cs 2 pd.toList) { v with rf:=RF }):=hZ (M7.out.Q6 Nh.out.v xY.out);have F8:Hid (aN N w (w6.setCells m 2 pd.toList)):=hZ ((lT.out.trans (aN.of HM.out.hN zH.out)).trans (M7.out.qU (eU _ _ _ _)));have N8:Hid (Bx (w6.setCells m 2 pd.toList) nb 57 pd):=hZ (BN7.out.bM (M7.out.qU (eU _ _ _ _)) (by decide) (by decide) (by decide));have E8:Hid (Bx (w6.setCells m 2 pd.toList) w.heap.size 147 #[.int .i64 1,.int .i64 f]):=hZ ((HEB.out.below zH.out).bM (M7.out.qU (eU _ _ _ _)) (by decide) (by decide) (by decide));obtain⟨w8,hw8⟩:∃w8,w8=w6.setCells m 2 pd.toList:=⟨_,rfl⟩;rw[<-hw8] at M8 F8 N8 E8;have HW8:=hZ hw8;have e80:w8.cell? ⟨w.heap.size,1,none⟩=some (.int .i64 f):=(E8.out.cell 1).trans rfl;have l8:=M8.out.size;have le8:=E8.out.lt;have ln8:=N8.out.lt;have ln7:=BN7.out.lt;have lb7:w.heap.size<w6.heap.size:=Nat.lt_of_lt_of_le le zH.out.size;have lm7:m<w6.heap.size:=M7.out.size;clear hw8 e0 e1 l0 le;go_wp2_with(first
  |((with_reducible refine uR nb ?_ BN7.out qG.out ?_);rfl)
  |((with_reducible refine stM qB m 2 pd ?_ ?_ M7.out.X ?_ qG.out Df.out ?_);rfl;rfl;exact(by rw[uJ.out];decide);rw[<-HW8.out])
  |(go_at_call 67;refine(mR _).mono ?_;rintro e w' ⟨rfl,hw⟩;rw[hw];clear hw))
 go_end0
 refine⟨rfl,⟨u,c,rP cs 2 pd.toList,?_⟩,F8.out⟩;rw[Tk.out];exact M8.out
theorem aER {w:World} {N m r t u c:Nat} {Z:Nat->Prop} {cs:Array Value} {v:Vm} (h:Mo w N Z m r t u c cs v) (X:Int) {s:gT} (hs:uQ v.dv X s) (h3:s.r<=3):
 Calls Tryz.prog 79 #[.pointer (some ⟨m,0,none⟩),.agg #[.int .i64 2,.int .i64 X]] w (Gv N Z m r t (kE v 2 X) w):=by
 have hw0:=aD w (.cells #[.int .i64 2,.int .i64 X] 147);have qI:=Bx.new w 147 #[.int .i64 2,.int .i64 X];have h1:=h.below hw0;have lT:=hZ (aN.of h.hN hw0);obtain⟨w0,hw⟩:∃w0,w0=w.alloc (.cells #[.int .i64 2,.int .i64 X] 147):=⟨_,rfl⟩;rw[<-hw] at h1 hw0 qI lT;have HM:=hZ h1;obtain⟨A,c2,xs,cd,hz,hq⟩:=h1.P9;obtain⟨R,hR⟩:∃R,R=v.dv.set X.toNat (bump s 1):=⟨_,rfl⟩;have hRl:R.length=64:=by rw[hR,List.length_set];exact h1.dvl
 have iZ:=hZ (λW (hW:Below w0.heap.size w0 W)=>aE1 (Q:=kS Z m r t u) A 64 c2 xs v.dv X W (hz.keeps (P:=λ_=>True) (λb hb' _=>hW.block b hb') hW.size (λ_ _ _ _ _=>trivial)) (Gp hq hW) (by decide) 0 R (.inr ⟨s,hs,.inr ⟨h3,rfl,hR⟩⟩));have Tk:Hid (kE v 2 X= { v with dv:=R }):=hZ (by
  have e:v.dv.getD X.toNat default=s:=by
   obtain⟨_,e,_⟩:=hs;simp[List.getD,e]
  unfold kE;rw[e,hR];simp)
 have De:=hZ hRl;have e0:w0.cell? ⟨w.heap.size,0,none⟩=some (.int .i64 2):=(qI.cell 0).trans rfl;have e1:w0.cell? ⟨w.heap.size,1,none⟩=some (.int .i64 X):=(qI.cell 1).trans rfl;have le:=qI.lt;have l0:=h1.size;clear h h1 h3 hs hw0 qI hz hq hR hRl;go_enter Tryz.func79,Tryz.ntmps79;go_wp2;rw[<-hw];clear hw;have gc:∀(d:Nat) (os:Array Obj) (b o:Nat),b<w0.heap.size->(grow (redrawn w0 d) os).cell? ⟨b,o,none⟩=w0.cell? ⟨b,o,none⟩:=λd os b o h=>(below_regrown _ d os).cell (p:=⟨b,o,none⟩) h;refine fK [Sp.gen 6 (λu=>∃A c',u=.tuple #[.slice A 64 c',.int .i64 0]) (λv W=>∀A c',v=.tuple #[.slice A 64 c',.int .i64 0]->Ms (kS Z m r t u) w0 R A 64 W) ⟨_,none,0,rfl⟩ (λv W W' h hb A c' e=>Qk (h A c' e) hb)] (by kernel_rfl) (by kernel_rfl) ?_;intro V hV;obtain⟨A6,c6,e6⟩:∃A c',V 6=.tuple #[.slice A 64 c',.int .i64 0]:=hV 6
 (refine rq rfl rfl ?_;go_big_quiet_step(fail);refine wpQuiet_nil ?_)
 refine rn ⟨m,0,none⟩ (by kernel_rfl) rfl rfl ?_;go_big_quiet_step(fail);refine wpQuiet_nil ?_;iterate 4 (refine rq rfl rfl ?_;go_big_quiet_step(fail);refine wpQuiet_nil ?_)
 refine mQ (Sp.gen 6 _ _ _ _) (by kernel_rfl) rfl (λw' hb hf=> ?_) ?_
 ·refine bY (f:=123) (args:= #[.slice A 64 c2,.int .i64 X]) ?_ ((iZ.out w' hb).mono ?_)
  ·go_simp
  ·rintro e W ⟨A',n',c',rfl,hg⟩
   obtain⟨ys,g1,g2,g3,g4⟩:=hg;obtain rfl:n'=64:=by rw[<-g1.1,g2.1];exact De.out
   refine⟨_,rfl,g3,⟨A',c',rfl⟩,λA2 c2 e2=> ?_⟩;cases e2;exact⟨ys,g1,g2,hb.trans (g3.mono hb.size),λb o s e h0=>Nat.le_trans hb.size (g4 b o s e h0)⟩
 go_big_quiet_step(fail);refine wpQuiet_nil ?_;simp only[e6];iterate 5 (refine rq rfl rfl ?_;go_big_quiet_step(fail);refine wpQuiet_nil ?_)
 refine rend ?_;intro w6 hb6 hf;have hg:Ms (kS Z m r t u) w0 R A6 64 w6:=hf _ (List.Mem.head _) A6 c6 rfl;have HG:=hZ hg;have M6:=hZ (HM.out.below hb6);have F6:=hZ (lT.out.trans (aN.of HM.out.hN hb6));obtain⟨Ad,cd',_,cd6,_,_⟩:=M6.out.P9;have fd6:=M6.out.X.free 67;have l6:=M6.out.size;clear hf hV gc e6 hg hb6 e0 e1 l0 le cd;go_wp2_with(go_at_call 67;refine(mR _).mono ?_;rintro e w' ⟨rfl,hw⟩;rw[hw];clear hw)
 go_end0
 have M7:=M6.out.aBM (c':=c6) HM.out.lt HM.out.zl HG.out;refine⟨rfl,⟨u,c,cs.setIfInBounds 67 (.slice A6 64 c6),?_⟩,F6.out.trans (M6.out.qU ((bD.refl (λq=>q=m) w6).cell (.inl rfl) _ _))⟩;rw[Tk.out];exact M7
section
section
variable {w w' W:World} {N m r t u c:Nat} {Z:Nat->Prop} {cs:Array Value} {v:Vm}
theorem Mv.aNS {cs':Array Value} {g c':Nat} {U:List Bool} {x:Int} (V:Mv Z w m r t u c cs v) (hs:cs'.size=179) (h1:cs'.all (·.oneCell')=true) (hj:∀j,j≠113->j≠178->cs'[j]? =cs[j]?) (hc:cs'[113]? =some (.slice (some ⟨g,0,none⟩) 64 c')) (hh:cs'[178]? =some (.int .i64 x)) (hg:w.heap.size<=g):Mv Z w m r t g c' cs' { v with us:=U,hd:=x } where
 size:=hs
 one:=h1
 iX:=(hj 0 (by omega) (by omega)).trans V.iX
 tag:=(hj 1 (by omega) (by omega)).trans V.tag
 free:=by
  obtain⟨y,q,q1,q2,q6⟩:=V.free;exact⟨y,(hj 2 (by omega) (by omega)).trans q,q1,λb off s n c e h0=>⟨(q2 b off s n c e h0).1,(q2 b off s n c e h0).2.1,(q2 b off s n c e h0).2.2.1,lV.old q1 hg b off s n c e h0,(q2 b off s n c e h0).2.2.2.2⟩,q6⟩
 refs:=λi hi=>(hj _ (by omega) (by omega)).trans (V.refs i hi)
 dev:=by
  obtain⟨A,c,xs,q,q2,q3,q4⟩:=V.dev;refine⟨A,c,xs,(hj 67 (by omega) (by omega)).trans q,q2,⟨q3.1,λi x s hx hs'=> ?_⟩,λb o s e=> ?_⟩
  ·have z:=q3.2 i x s hx hs'
   refine⟨z.r,z.b,z.t,z.bn,z.tn,z.i,λh0 b o n e=> ?_,λh0 b o n e=> ?_⟩
   ·obtain⟨a1,a2,a3,_,a5⟩:=z.q h0 b o n e
    obtain⟨b',off,e',hb,_⟩:=z.b.2.2 h0;rw[e] at e';cases e';exact⟨a1,a2,a3,by omega,a5⟩
   ·obtain⟨a1,a2,a3,_,a5⟩:=z.qt h0 b o n e
    obtain⟨b',off,e',hb,_⟩:=z.t.2.2 h0;rw[e] at e';cases e';exact⟨a1,a2,a3,by omega,a5⟩
  ·obtain⟨a1,a2,a3,_,a5⟩:=q4 b o s e
   obtain⟨b',off,e',hb,_⟩:=q2.2.2 (by decide);rw[e] at e';cases e';exact⟨a1,a2,a3,by omega,a5⟩
 vS:=by
  obtain⟨A,c,q,q2,q4⟩:=V.vS;refine⟨A,c,(hj 68 (by omega) (by omega)).trans q,q2,λb o s e h0=> ?_⟩;obtain⟨a1,a2,a3,_,a5⟩:=q4 b o s e h0;obtain⟨b',off,e',hb,_⟩:=q2.2.2 h0;rw[e] at e';cases e';exact⟨a1,a2,a3,by omega,a5⟩
 live:=λk hk=>(hj _ (by omega) (by omega)).trans (V.live k hk)
 root:=λk hk=>(hj _ (by omega) (by omega)).trans (V.root k hk)
 rg:=λk hk=>by obtain⟨y,q,q2⟩:=V.rg k hk;exact⟨y,(hj _ (by omega) (by omega)).trans q,q2⟩
 ks:=λk hk i y hy=>(hj _ (by have:=sK hy;omega) (by have:=sK hy;omega)).trans (V.ks k hk i y hy)
 used:=hc
 fixed:=λi hi=>(hj _ (by omega) (by omega)).trans (V.fixed i hi)
 hand:=hh
theorem Mo.next {g c':Nat} {U:List Bool} {x:Int} (h:Mo w N Z m r t u c cs v) (hb:Below w.heap.size w W) (hg:w.heap.size<=g) (hU:Ow fB 1 4 W N (some ⟨g,0,none⟩) 64 c' U):
 Mo ((W.setCell ⟨m,178,none⟩ (.int .i64 x)).setCell ⟨m,113,none⟩ (.slice (some ⟨g,0,none⟩) 64 c')) N Z m r t g c' ((cs.setIfInBounds 178 (.int .i64 x)).setIfInBounds 113 (.slice (some ⟨g,0,none⟩) 64 c')) { v with us:=U,hd:=x } :=by
 obtain⟨l1,l2,l3,l4⟩:=h.lt;obtain⟨n1,n2,n3,n4,n5⟩:=h.ne;obtain⟨s1,s2,s3,s4⟩:=h.V.set (o:=178) (x:=.int .i64 x) rfl;have k:∀q,q≠m->((W.setCell ⟨m,178,none⟩ (.int .i64 x)).setCell ⟨m,113,none⟩ (.slice (some ⟨g,0,none⟩) 64 c')).heap[q]? =W.heap[q]? :=λq hq=>(gW _ m 113 _ q hq).trans (gW W m 178 _ q hq);have hs:W.heap.size<=((W.setCell ⟨m,178,none⟩ (.int .i64 x)).setCell ⟨m,113,none⟩ (.slice (some ⟨g,0,none⟩) 64 c')).heap.size:=by simp[World.setCell]
 have V1:Mv Z w m r t g c' ((cs.setIfInBounds 178 (.int .i64 x)).setIfInBounds 113 (.slice (some ⟨g,0,none⟩) 64 c')) { v with us:=U,hd:=x } :=
  h.V.aNS (by rw[Array.size_setIfInBounds];exact s1) (one_set s2 rfl) (λj h1 h2=>by rw[Array.getElem?_setIfInBounds_ne (Ne.symm h1)];exact s3 j h2) (Array.getElem?_setIfInBounds_self_of_lt (by rw[s1];decide)) (by rw[Array.getElem?_setIfInBounds_ne (by decide)];exact s4 (by decide)) hg
 have V2:=V1.keeps (w':=(W.setCell ⟨m,178,none⟩ (.int .i64 x)).setCell ⟨m,113,none⟩ (.slice (some ⟨g,0,none⟩) 64 c')) (λb hb' ho=>(k b ho.1).trans (hb.block b hb')) (λb cur hx=>(k b (gP hx h.X (by decide))).trans (hx.below hb)) (Nat.le_trans hb.size hs);exact⟨h.nm,h.nr,h.nt,by have:=h.hN;omega,h.rt,λb hz=>Nat.lt_of_lt_of_le (h.zl b hz) (Nat.le_trans hb.size hs),yV (yV (h.X.below hb)),h.iX.same ((k r (Ne.symm n1)).trans (hb.block r l2)),h.tag.same ((k t (Ne.symm n2)).trans (hb.block t l3)),hU.same (k g (by omega)),V2⟩
theorem Mo.aAh (h:Mo w N Z m r t u c cs v) {f:Int} (h0:0<=f) (h1:f<64):Row .u8 w w.heap.size (some ⟨r,(f*64).toNat,none⟩) 64 (tL v.zs f):=by
 obtain⟨_,l2,_,_⟩:=h.lt;refine⟨Aj _ _,by unfold maxLen;omega,λ_=>⟨r,(f*64).toNat,rfl,l2,λi hi=> ?_⟩⟩;obtain⟨b,off,e,_,hc⟩:=h.zY.2.2 (by decide);cases e;have:=hc ((f*64).toNat+i) (by omega);rw[Nat.zero_add] at this;rw[this,Xg v.zs f hi]
end
theorem aIl (F S:Int) (v:Vm) (i:Nat):(oQ F S v i).tl.length<=v.tl.length:=by
 unfold oQ;split
 ·exact xB _ _ _
 ·exact nR _
theorem Nu (F S:Int) (v:Vm):∀n,(iJ F S v n).tl.length<=v.tl.length
 |0=>nR _
 |n+1=>by rw[Av];exact Nat.le_trans (aIl _ _ _ _) (Nu F S v n)
def sJ (v:Vm) (f:Nat) (j:Int):Vm:= { v with rf:=aO v.rf f j,us:=if j=0 then v.us.set f false else v.us }
theorem aDF {v:Vm} {f:Nat} (h:v.rf f≠0):sJ v f (v.rf f)=v:=by
 unfold sJ;rw[Nt rfl,if_neg h]
theorem aFm {v:Vm} {f:Nat} {j:Int} (h:j≠0):bO (sJ v f j) 1 f=sJ v f (j -1):=by
 have e:(sJ v f j).rf f=j:=vH _ _ _;unfold bO;rw[if_pos rfl,Int.toNat_natCast,e];unfold sJ;simp only[T9,if_neg h]
theorem aHd (v:Vm) (f:Nat):sJ v f 0=Vs v f:=by unfold sJ Vs;simp
theorem Ow.below' {α:Type} {f:α->List Value} {sz:Nat} {T:TypeId} {w w':World} {base n c:Nat} {A:Option Addr} {xs:List α} (h:Ow f sz T w base A n c xs) (hb:Below w.heap.size w w'):Ow f sz T w' base A n c xs:=
 ⟨h.1,h.2.1,h.2.2.1,λhn=>by
   obtain⟨g,cur,e,hg,hh,hc⟩:=h.2.2.2 hn;exact⟨g,cur,e,hg,(hb.block g (kM hh)).trans hh,hc⟩⟩
end
end Go.Proofs.YtoogfmbojlpjaaaGreat
