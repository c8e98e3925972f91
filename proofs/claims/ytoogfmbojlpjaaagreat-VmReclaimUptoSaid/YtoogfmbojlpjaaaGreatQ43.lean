/- Lemmas. -/
import Derived.Test.YtoogfmbojlpjaaaGreatQ41
import Derived.Test.YtoogfmbojlpjaaaGreatQ42
import Derived.Test.YtoogfmbojlpjaaaGreatQ12
import Derived.Test.YtoogfmbojlpjaaaGreatQ25
import Derived.Test.YtoogfmbojlpjaaaGreatQA
set_option maxRecDepth 100000
set_option maxHeartbeats 32000000
set_option linter.unusedVariables false
set_option linter.unusedSimpArgs false
namespace Go.Proofs.YtoogfmbojlpjaaaGreat
open Go.ChangeShapes Go.WideShapes Go.ChangeAt Go.RowKit Go.Joins Go.Sort
abbrev mP.v (t:mP):Value:=.agg #[.int .i64 t.p,.int .i64 t.f,.int .i64 t.t]
def Gst (N:Nat) (Z:Nat->Prop) (m r t:Nat) (x:Vm×Int×Int) (w:World) (e:Ending) (w':World):Prop:=e=.returned (.tuple #[.int .i64 x.2.1,.int .i64 x.2.2])/\Mr w' N Z m r t x.1/\aN N w w'
def aDo (v:Vm) (o:aL) (t:mP):Prop:=kJ (v.ps o.proc.toNat).rg (v.ps o.proc.toNat).ks t.p (iU o.kind)=0->o.kind≠13->o.kind≠12->((dF (v.ps o.proc.toNat).rg t.p).getD zA).g=true->Zu v o.proc.toNat t.p false/\Bytes (jW v o.proc.toNat t.p false).ts
theorem aNt {dst:Option Tmp} {x lo hi:Operand} {type:TypeId} {pos:String} {after:Array Edge} {guard:Option (Nat×Bool)} {a:Act} {w:World} (g c:Nat) (l h:Int) (hx:a.eval x=.slice (some ⟨g,0,none⟩) 4 c) (hlo:a.eval lo=.int .i64 l) (hhi:a.eval hi=.int .i64 h) (h0:0<=l) (h2:l<=h) (h3:h<=4) (hc:4<=c) (hl:l<4):
 (execOp a.eval ⟨dst,.slice 48 x (some lo) (some hi) none,type,pos,after,guard⟩).run Tryz.prog w=.ok (.value (.slice (some ⟨g,l.toNat,none⟩) (h.toNat -l.toNat) (c -l.toNat))) w:=by
 have hu:Tryz.prog.underlying 48=some (.slice (Tryz.prog.elem 48)):=by kernel_rfl
 have hs:(sizeOf (Tryz.prog.elem 48)).run Tryz.prog w=.ok 1 w:=by kernel_rfl
 have hadd:(Addr.add ⟨g,0,none⟩ l.toNat)=⟨g,l.toNat,none⟩:=by rw[addr_add,Nat.zero_add]
 have hne:¬c=l.toNat:=by omega
 have e1:(Instr.sliceAt 48 (.slice (some ⟨g,0,none⟩) 4 c) (some (.int .i64 l)) (some (.int .i64 h)) none).run Tryz.prog w=.ok (.slice (some ⟨g,l.toNat,none⟩) (h.toNat -l.toNat) (c -l.toNat)) w:=by
  rw[run_sliceAt_slice (h:=hu),run_slice_lh (ht:=hu) (h0:=h0) (h1:=h2) (h2:=by omega),hs];simp[sliced,hne,hadd,Result.andThen]
 simp[execOp,Sem.run_bind,hx,hlo,hhi,e1]
theorem aDM {l:List aC} {K:aJ} {pg way:Int} (h:kJ l K pg way=0):∃a,dF l pg=some a/\oZ a.r a.k K way=0:=by
 unfold kJ at h;split at h
 ·cases h
 ·rename_i a e;exact⟨a,e,h⟩
theorem aCU (v:Vm) (f:Int) (b t:List Int):(iM v f b t).ps=v.ps:=rfl
theorem aHz (v:Vm) (k:Nat) (page:Int) (x:Int×Int):(Bz v k page x).ps=v.ps:=by
 unfold Bz;rw[aD5,Ll];split<;>rw[aCU,Uc]
theorem aJz (v:Vm) (k:Nat) (page n:Int):(copyV v k page n).ps=v.ps:=by
 unfold copyV;rw[aD5,Ll,aCU];show(dJ (sQ v n)).ps=v.ps;rw[Uc];rfl
theorem aCx (v:Vm) (k:Nat) (page:Int) (W:Bool):(jW v k page W).ps=v.ps:=by
 have h1:(lL v k page).1.ps=v.ps:=by unfold lL;split;rfl;exact aHz _ _ _ _
 show(sO _ _ _ _ _).1.ps=_;unfold sO;split
 ·rw[<-h1];exact aJz _ _ _ _
 ·exact h1
def fG.aFa {N:Nat} {C:World->Prop} {K:Nat} (k:Nat) (zs:List Int):fG (MD N C K):=⟨k,none,[],λu=>∃g c,u=.slice (some ⟨g,0,none⟩) 4 c/\4<=c,λ_ u w=>∃g c cur,u=.slice (some ⟨g,0,none⟩) 4 c/\Bx w g 3 cur/\∀i,i<4->cur[i]? =some (.int .i64 (zs.getD i 0)),⟨.slice (some ⟨0,0,none⟩) 4 4,0,4,rfl,nR _⟩,λi _ hi u v w w' h hm=>by
 obtain⟨g,c,cur,e,hx,hc⟩:=h;refine⟨g,c,cur,e,?_,hc⟩;unfold MD at hm;split at hm
 ·exact hx.bM hm.2 (by decide) (by decide) (by decide)
 ·exact hx.below hm⟩
theorem aOk {w:World} {g:Nat} {cur:Array Value} {zs:List Int} (hx:Bx w g 3 cur) (hc:∀i,i<4->cur[i]? =some (.int .i64 (zs.getD i 0))) (hz:zs.length=4) (a n:Nat) (h:a+n<=4):Row .i64 w w.heap.size (some ⟨g,a,none⟩) n ((zs.drop a).take n):=by
 refine⟨by simp;omega,by unfold maxLen;omega,λhn=>⟨_,_,rfl,hx.lt,λi hi=> ?_⟩⟩;rw[hx.cell,hc _ (by omega)];simp[List.getD_eq_getElem?_getD,List.getElem?_take,hi]
def fG.call {N:Nat} {C:World->Prop} {K:Nat} (k:Nat) (x:Value):fG (MD N C K):=⟨k,none,[],λu=>u=x,λ_ _ _=>True,⟨x,rfl⟩,λ_ _ _ _ _ _ _ _ _=>trivial⟩
theorem wN {N:Nat} {C:World->Prop} {K k:Nat} {o:Oper} {a:Act} {w:World} {f:FuncId} {args:Array Value} {x:Value} (hk:k≠K) (h:(execOp a.eval o).run Tryz.prog w=.ok (.enter f args) w) (hc:Calls Tryz.prog f args w λe w'=>e=.returned x/\Below w.heap.size w w'):
 gG (MD N C K k) Tryz.prog o a w λu w'=>(fG.call (N:=N) (C:=C) (K:=K) k x).shape u/\(fG.call (N:=N) (C:=C) (K:=K) k x).fact undef u w':=
 pU h (hc.mono λe w' h=>⟨x,h.1,by unfold MD;rw[if_neg hk];exact h.2,rfl,trivial⟩)
theorem aDh {N:Nat} {C:World->Prop} {K k:Nat} {o:Oper} {a:Act} {w:World} {f:FuncId} {args:Array Value} {zs:List Int} (hk:k≠K) (h:(execOp a.eval o).run Tryz.prog w=.ok (.enter f args) w) (hc:Calls Tryz.prog f args w λe w'=>∃A c,e=.returned (.slice A 4 c)/\Own .i64 3 w' w.heap.size A 4 c zs/\Below w.heap.size w w'):
 gG (MD N C K k) Tryz.prog o a w λu w'=>(fG.aFa (N:=N) (C:=C) (K:=K) k zs).shape u/\(fG.aFa (N:=N) (C:=C) (K:=K) k zs).fact undef u w':=
 pU h (hc.mono λe w' h=>by
  obtain⟨A,c,he,ho,hb⟩:=h;obtain⟨g,cur,e2,hg,hh,hc⟩:=ho.2.2.2 (by decide)
  exact⟨_,he,by unfold MD;rw[if_neg hk];exact hb,⟨g,c,by rw[e2],ho.2.1⟩,g,c,cur,by rw[e2],hh,hc⟩)
theorem aGf {w:World} {N m r t u c:Nat} {Z:Nat->Prop} {cs:Array Value} {v:Vm} (h:Mo w N Z m r t u c cs v) (o:aL) (ho:o.fits) (hp0:0<=o.proc) (Mh:o.proc<4) (x:mP) (h0:0<=x.p) (h1:x.p<64) (h2:0<=x.f) (h3:x.f<x.t) (h4:x.t<=64) (hS:aDo v o x):
 Calls Tryz.prog 85 #[.pointer (some ⟨m,0,none⟩),o.v,x.v] w (Gst N Z m r t (gH v o x) w):=by
 obtain⟨k,pr,pg,cn,ri,ke,bR,dr,ad,sz,va,ta⟩:=o;obtain⟨tp,tf,tt⟩:=x;unfold aL.fits eG at ho;simp only at ho h0 h1 h2 h3 h4 hp0 Mh;obtain⟨K,rfl⟩:∃K:Nat,pr=K:=⟨pr.toNat,by omega⟩;obtain⟨fk,fp,Py,fc,fri,fke,Xi,Sw,Xf,fva,fta⟩:=ho;simp only[aL.v,mP.v];have hk:K<4:=by omega
 have hB2:Below w.heap.size w ((w.alloc (.cells #[.int .i64 k,.int .i64 K,.int .i64 pg,.int .i64 cn,.int .i64 ri,.int .i64 ke,.bool bR,.int .i64 dr,.int .i64 ad,.int .i64 sz,.int .i64 va,.int .i64 ta] 26)).alloc (.cells #[.int .i64 tp,.int .i64 tf,.int .i64 tt] 163)):=(aD _ _).alloc (by simp) _;have hO2:Bx ((w.alloc (.cells #[.int .i64 k,.int .i64 K,.int .i64 pg,.int .i64 cn,.int .i64 ri,.int .i64 ke,.bool bR,.int .i64 dr,.int .i64 ad,.int .i64 sz,.int .i64 va,.int .i64 ta] 26)).alloc (.cells #[.int .i64 tp,.int .i64 tf,.int .i64 tt] 163)) w.heap.size 26 #[.int .i64 k,.int .i64 K,.int .i64 pg,.int .i64 cn,.int .i64 ri,.int .i64 ke,.bool bR,.int .i64 dr,.int .i64 ad,.int .i64 sz,.int .i64 va,.int .i64 ta]:=(Bx.new _ _ _).below (aD _ _);have Jd:Bx ((w.alloc (.cells #[.int .i64 k,.int .i64 K,.int .i64 pg,.int .i64 cn,.int .i64 ri,.int .i64 ke,.bool bR,.int .i64 dr,.int .i64 ad,.int .i64 sz,.int .i64 va,.int .i64 ta] 26)).alloc (.cells #[.int .i64 tp,.int .i64 tf,.int .i64 tt] 163)) (w.heap.size+1) 163 #[.int .i64 tp,.int .i64 tf,.int .i64 tt]:=by
  have:=Bx.new (w.alloc (.cells #[.int .i64 k,.int .i64 K,.int .i64 pg,.int .i64 cn,.int .i64 ri,.int .i64 ke,.bool bR,.int .i64 dr,.int .i64 ad,.int .i64 sz,.int .i64 va,.int .i64 ta] 26)) 163 #[.int .i64 tp,.int .i64 tf,.int .i64 tt];rwa[World.size_alloc] at this
 unfold aDo at hS;simp only[Int.toNat_natCast] at hS;obtain⟨hv,hhv⟩:∃hv,hv=jW v K tp false:=⟨_,rfl⟩;obtain⟨zs,hzs⟩:∃zs,zs=D8 v K ⟨tp,tf,tt⟩:=⟨_,rfl⟩;obtain⟨z4,Cw⟩:∃z4,z4=jS hv.ts (yL v K tp false):=⟨_,rfl⟩;obtain⟨wy,hwy⟩:∃wy,wy=iU k:=⟨_,rfl⟩;obtain⟨rg,hrg⟩:∃rg,rg=(v.ps K).rg:=⟨_,rfl⟩;obtain⟨ks,hks⟩:∃ks,ks=(v.ps K).ks:=⟨_,rfl⟩;obtain⟨ft,hft⟩:∃ft,ft=kJ rg ks tp wy:=⟨_,rfl⟩;obtain⟨rs,hrs⟩:∃rs,rs=gH v ⟨k,(K:Int),pg,cn,ri,ke,bR,dr,ad,sz,va,ta⟩ ⟨tp,tf,tt⟩:=⟨_,rfl⟩
 have HST:Hid (rs=(if ft≠0 then(v,ft,tp*64+tf)
  else if k=13 then(if((dF rg tp).getD zA).g=false then(v,4,tp*64+tf) else(v,0,0))
  else if((dF rg tp).getD zA).g=false\/k=12 then(v,0,0)
  else if oP ((dF rg tp).getD zA).g wy zs ta=0 then(hv,0,0)
  else(hv,oP ((dF rg tp).getD zA).g wy zs ta,max (tp*64+tf) (tp*64+(tf/16+sF ((dF rg tp).getD zA).g wy zs ta)*16)))):=hZ (by rw[hrs,hzs,hft,hrg,hks,hwy,hhv];rfl)
 have HHV:=hZ hhv;have Qp:Hid (z4.length=4/\zs=(z4.drop (tf/16).toNat).take ((tt -1)/16+1 -tf/16).toNat):=hZ ⟨by rw[Cw];exact Zj _ _,by rw[hzs,Cw,hhv];rfl⟩;have HZG:=hZ Cw;have lS:Hid (ft=0->k≠13->k≠12->((dF rg tp).getD zA).g=true->Zu v K tp false/\Bytes hv.ts):=hZ (by rw[hft,hrg,hks,hwy,hhv];exact hS);have HFZ:Hid (ft=0->∃a,dF rg tp=some a/\oZ a.r a.k ks wy=0):=hZ (by rw[hft];exact aDM);have HRG:Hid (∃y,cs[69+K*11+2]? =some y/\Rt w y rg):=hZ (by rw[hrg];exact h.V.rg K hk)
 have Di:Hid (Sub (pC cs K) 3 (kA ks)):=hZ (λi y hy=>by
  have hi:=sK hy;rw[Gs h.V.size hk (by omega),<-Nat.add_assoc]
  exact h.V.ks K hk i y (by rw[<-hks];exact hy))
 have HWY:=hZ (λ(W:World)=>(aBj k W));rw[<-hwy] at HWY;have HM:=hZ h;have HN:=hZ h.hN;have HK:=hZ hk;have hki:(K:Int)<4:=by omega
 have hk0:(0:Int)<=(K:Int):=by omega
 have Yg:=hZ (Y8 h.V.size hk);have aPo:Hid ((pC cs K).all (·.oneCell')=true):=hZ (aB1 h.V.one K)
 have aJR:Hid (Sub cs (69+K*11) (pC cs K)):=hZ (λi x hx=>by
  have hi:i<11:=by rw[<-Yg.out];exact(Array.getElem?_eq_some_iff.1 hx).1
  rw[<-Gs h.V.size hk hi];exact hx)
 have HP2:Hid ((pC cs K)[2]? =cs[69+K*11+2]?):=hZ (Gs h.V.size hk (by decide));rw[<-hrs];clear hS hhv hzs Cw hrs h hk hp0 Mh hrg hks;have Nb:=hZ hft;clear hft hwy;go_enter Tryz.func85,Tryz.ntmps85;go_upto_region 1 with fail
 obtain⟨w2,hw2⟩:∃w2,w2=((w.alloc (.cells #[.int .i64 k,.int .i64 K,.int .i64 pg,.int .i64 cn,.int .i64 ri,.int .i64 ke,.bool bR,.int .i64 dr,.int .i64 ad,.int .i64 sz,.int .i64 va,.int .i64 ta] 26)).alloc (.cells #[.int .i64 tp,.int .i64 tf,.int .i64 tt] 163)):=⟨_,rfl⟩;rw[<-hw2] at hB2 hO2 Jd⊢;clear hw2;have M2:=hZ (HM.out.below hB2);have F2:=hZ (aN.of HM.out.hN hB2);have O2:=hZ hO2;have T2:=hZ Jd;have X2:=hZ M2.out.X;obtain⟨y,hy1,hy2⟩:=HRG.out;have HY:=hZ (HP2.out.trans hy1);have RY:=hZ (hy2.below hB2);obtain⟨A,nn,cc,rfl,_⟩:=hy2.rv;have lm:=M2.out.size;have l2:w.heap.size<w2.heap.size:=O2.out.lt;have l3:w.heap.size+1<w2.heap.size:=T2.out.lt;have o1:w2.cell? ⟨w.heap.size,1,none⟩=some (.int .i64 (K:Int)):=by rw[O2.out.cell];rfl
 have gc:∀(d:Nat) (os:Array Obj) (b o:Nat),b<w2.heap.size->(grow (redrawn w2 d) os).cell? ⟨b,o,none⟩=w2.cell? ⟨b,o,none⟩:=λd os b o h=>(below_regrown _ d os).cell (p:=⟨b,o,none⟩) h;clear hB2 hO2 Jd hy1 hy2;have hL1:∀cs',(64,cs')∈ [((64:TypeId),pC cs K)]->cs'=pC cs K:=λcs' h=>by simpa using h
 refine Iw (H8 w2.heap.size [((64:TypeId),pC cs K)]) [dK.box 7 64 11 (λcs' h=>by rw[hL1 cs' h];exact Yg.out),dK.st 8 7 64 (pC cs K) hL1] (by kernel_rfl) (Lf (nR _)) (by kernel_rfl) (by kernel_rfl) ?_;intro V hV;obtain⟨b8,e7⟩:∃b,V 7=.pointer (some ⟨b,0,none⟩):=hV 7;iterate 3 (refine mq rfl rfl ?_;go_big_quiet_step(fail);refine wpQuiet_nil ?_)
 refine mn ⟨m,0,none⟩ (by kernel_rfl) rfl rfl ?_;go_big_quiet_step(fail);refine wpQuiet_nil ?_;iterate 2 (refine mq rfl rfl ?_;go_big_quiet_step(fail);refine wpQuiet_nil ?_)
 refine mf (.agg (pC cs K)) (by kernel_rfl) rfl (λw' hb hf=>nU rfl (lN Tryz.underlying64 rfl (by rw[Yg.out];exact yK) (X2.out.below hb) aJR.out rfl)) ?_;go_big_quiet_step(fail);refine wpQuiet_nil ?_;refine Cv (dK.box 7 64 11 (λcs' h=>by rw[hL1 cs' h];exact Yg.out)) (by kernel_rfl) rfl (λw' hb hf=> ?_) ?_
 ·refine oD (w':=w'.alloc (.cells #[.bool false,.int .i64 0,.slice none 0 0,.bool false,.int .i64 0,.bool false,.int .i64 0,.bool false,.int .i64 0,.bool false,.int .i64 0] 64)) (v:=.pointer (some ⟨w'.heap.size,0,none⟩)) ?_ (.inl (aD _ _)) ⟨⟨_,rfl⟩,_,_,rfl,hb.size,Bx.new _ _ _,rfl⟩
  go_simp
 go_big_quiet_step(fail);refine wpQuiet_nil ?_;simp only[e7];refine Cv (dK.st 8 7 64 (pC cs K) hL1) (by kernel_rfl) rfl (λw' hb hf=> ?_) ?_
 ·obtain⟨b2,z,hab,hag,BA,hz⟩:∃b z,Value.pointer (some ⟨b8,0,none⟩)=.pointer (some ⟨b,0,none⟩)/\w2.heap.size<=b/\Bx w' b 64 z/\z.size=11:=hf _ (List.Mem.head _) (by kernel_rfl)
  cases hab;exact oF yK b8 (pC cs K) rfl rfl BA hz Yg.out aPo.out (.inr ⟨b8,_,pC cs K,z,List.mem_cons_self,hag,BA,by rw[hz,Yg.out],rfl⟩) ⟨rfl,b8,e7,BA.row _⟩
 go_big_quiet_step(fail);refine wpQuiet_nil ?_;refine mend ?_;intro w3 hb3 hf;obtain⟨b2,hnb,BN⟩:∃b,V 7=.pointer (some ⟨b,0,none⟩)/\Bx w3 b 64 (pC cs K):=hf _ (List.Mem.head _);rw[e7] at hnb;cases hnb;have P3:=hZ BN;have M3:=hZ (M2.out.below hb3);have F3:=hZ (F2.out.trans (aN.of M2.out.hN hb3));have O3:=hZ (O2.out.below hb3);have T3:=hZ (T2.out.below hb3);have R3:=hZ (RY.out.below hb3);clear hf hV gc e7 hL1 BN hb3 lm l2 l3 o1;have l2:w.heap.size<w3.heap.size:=O3.out.lt;have l3:w.heap.size+1<w3.heap.size:=T3.out.lt;have o0:w3.cell? ⟨w.heap.size,0,none⟩=some (.int .i64 k):=by rw[O3.out.cell];rfl
 have t0:w3.cell? ⟨w.heap.size+1,0,none⟩=some (.int .i64 tp):=by rw[T3.out.cell];rfl
 have t1:w3.cell? ⟨w.heap.size+1,1,none⟩=some (.int .i64 tf):=by rw[T3.out.cell];rfl
 have t2:w3.cell? ⟨w.heap.size+1,2,none⟩=some (.int .i64 tt):=by rw[T3.out.cell];rfl
 have gc:∀(d:Nat) (os:Array Obj) (b o:Nat),b<w3.heap.size->(grow (redrawn w3 d) os).cell? ⟨b,o,none⟩=w3.cell? ⟨b,o,none⟩:=λd os b o h=>(below_regrown _ d os).cell (p:=⟨b,o,none⟩) h;have p2:w3.cell? ⟨b8,2,none⟩=some (.slice A nn cc):=by rw[P3.out.cell];exact HY.out
 have lb:=P3.out.lt;have q1:IntKind.i64.wrap (tp*64)=tp*64:=by rw[IntKind.wrap_i64];omega
 have q2:IntKind.i64.wrap (tp*64+tf)=tp*64+tf:=by rw[IntKind.wrap_i64];omega
 have jT:=hZ (λ(W:World) (hb:Below w3.heap.size w3 W)=>aHA (R3.out.rv.below hb) ks tp wy);rw[<-Nb.out] at jT;go_upto_region 3 with fail
 refine fK [Sp.call 8 (.int .i64 wy),Sp.call 9 (.int .i64 ft)] (by kernel_rfl) (by kernel_rfl) ?_;intro V hV;have e8:V 8=.int .i64 wy:=hV 8;have e9:V 9=.int .i64 ft:=hV 9;iterate 3 (refine rq rfl rfl ?_;go_big_quiet_step(fail);refine wpQuiet_nil ?_)
 refine rf (.agg (kA ks)) (by kernel_rfl) rfl (λw' hb hf=>nU rfl (lN Tryz.underlying40 rfl gX (P3.out.below hb) Di.out rfl)) ?_;go_big_quiet_step(fail);refine wpQuiet_nil ?_;iterate 4 (refine rq rfl rfl ?_;go_big_quiet_step(fail);refine wpQuiet_nil ?_)
 refine mQ (Sp.call 8 _) (by kernel_rfl) rfl (λw' hb hf=> ?_) ?_
 ·refine rF (f:=87) (args:= #[.int .i64 k]) ?_ (HWY.out w')
  go_simp
 go_big_quiet_step(fail);refine wpQuiet_nil ?_;simp only[e8];refine mQ (Sp.call 9 _) (by kernel_rfl) rfl (λw' hb hf=> ?_) ?_
 ·refine iB (f:=131) (args:= #[.slice A nn cc,.agg (kA ks),.int .i64 tp,.int .i64 wy]) ?_ (jT.out w' hb)
  go_simp
 go_big_quiet_step(fail);refine wpQuiet_nil ?_;simp only[e9]
 (refine rq rfl rfl ?_;go_big_quiet_step(fail);refine wpQuiet_nil ?_)
 refine rend ?_;intro w4 hb4 hf;have M4:=hZ (M3.out.below hb4);have F4:=hZ (F3.out.trans (aN.of M3.out.hN hb4));have O4:=hZ (O3.out.below hb4);have T4:=hZ (T3.out.below hb4);have R4:=hZ (R3.out.below hb4);have P4:=hZ (P3.out.below hb4);clear hf hV gc e8 e9 hb4 l2 l3 o0 t0 t1 t2 p2 lb jT q1 q2;have l2:w.heap.size<w4.heap.size:=O4.out.lt;have l3:w.heap.size+1<w4.heap.size:=T4.out.lt;have o0:w4.cell? ⟨w.heap.size,0,none⟩=some (.int .i64 k):=by rw[O4.out.cell];rfl
 have o11:w4.cell? ⟨w.heap.size,11,none⟩=some (.int .i64 ta):=by rw[O4.out.cell];rfl
 have t0:w4.cell? ⟨w.heap.size+1,0,none⟩=some (.int .i64 tp):=by rw[T4.out.cell];rfl
 have t1:w4.cell? ⟨w.heap.size+1,1,none⟩=some (.int .i64 tf):=by rw[T4.out.cell];rfl
 have t2:w4.cell? ⟨w.heap.size+1,2,none⟩=some (.int .i64 tt):=by rw[T4.out.cell];rfl
 have p2:w4.cell? ⟨b8,2,none⟩=some (.slice A nn cc):=by rw[P4.out.cell];exact HY.out
 have lb:=P4.out.lt;by_cases cf:ft=0
 ·obtain⟨⟨ar,ak,ag,S9⟩,ha,_⟩:=HFZ.out cf
  have Qs:Hid (k≠13->k≠12->ag=true->Zu v K tp false/\Bytes hv.ts):=hZ (by have:=lS.out cf;rw[ha] at this;exact this);have Zv:=hZ (HST.out.trans (if_neg (by simp[cf])));rw[ha] at Zv;simp only[Option.getD] at Zv;have Hw:=hZ (aEz R4.out tp);unfold Ym at Hw;rw[ha] at Hw;simp only[Option.getD,Option.isSome] at Hw;subst cf;clear ha HST HFZ lS Nb
  go_upto_region 7 with(first
   |(go_at_call 25
     refine Hw.out.mono ?_;rintro e w5 ⟨rfl,hb5⟩;have hb6:=hb5.trans ((aD w5 (.cells #[.int .i64 ar,.int .i64 ak,.bool ag,.bool S9] 97)).mono hb5.size);have BA:=hZ (Bx.new w5 97 #[.int .i64 ar,.int .i64 ak,.bool ag,.bool S9])
     obtain⟨b11,Ux⟩:∃b,b=w5.heap.size:=⟨_,rfl⟩)
   |((with_reducible refine uM infoAt #[.int .i64 ar,.int .i64 ak,.bool ag,.bool S9] ?_ ?_ rfl rfl (by simp[Value.oneCell']) ?_);rfl;rfl))
  obtain⟨w6,xO⟩:∃w6,w6=w5.alloc (.cells #[.int .i64 ar,.int .i64 ak,.bool ag,.bool S9] 97):=⟨_,rfl⟩;rw[<-xO] at hb6 BA⊢;rw[<-Ux] at BA⊢;have BA6:=BA;have M6:=hZ (M4.out.below hb6);have F6:=hZ (F4.out.trans (aN.of M4.out.hN hb6));have O6:=hZ (O4.out.below hb6);have T6:=hZ (T4.out.below hb6);clear xO Ux hb5 BA hb6 l2 l3 o0 o11 t0 t1 t2 p2 lb;have lb:=BA6.out.lt;have a2:w6.cell? ⟨b11,2,none⟩=some (.bool ag):=by rw[BA6.out.cell];rfl
  have l2:w.heap.size<w6.heap.size:=O6.out.lt;have l3:w.heap.size+1<w6.heap.size:=T6.out.lt;have o0:w6.cell? ⟨w.heap.size,0,none⟩=some (.int .i64 k):=by rw[O6.out.cell];rfl
  have t1:w6.cell? ⟨w.heap.size+1,1,none⟩=some (.int .i64 tf):=by rw[T6.out.cell];rfl
  have t2:w6.cell? ⟨w.heap.size+1,2,none⟩=some (.int .i64 tt):=by rw[T6.out.cell];rfl
  by_cases ck:k=13
  ·have Vg:=hZ (Zv.out.trans (if_pos ck))
   subst ck;clear Zv;cases ag with
   |false=>
    have HR:Hid (rs=(v,4,tp*64+tf)):=hZ (Vg.out.trans (if_pos rfl));go_wp2
    go_ret2
    exact⟨jQ (by rw[HR.out]) (by rw[HR.out]),by rw[HR.out];exact⟨u,c,cs,M6.out⟩,F6.out⟩
   |true=>
    have HR:Hid (rs=(v,0,0)):=hZ (Vg.out.trans (if_neg (by simp)));go_wp2
    go_ret2
    exact⟨jQ (by rw[HR.out]) (by rw[HR.out]),by rw[HR.out];exact⟨u,c,cs,M6.out⟩,F6.out⟩
  ·have Vg:=hZ (Zv.out.trans (if_neg ck))
   have aOM:(k==13)=false:=by rw[beq_eq_false_iff_ne];exact ck
   clear Zv;cases ag with
   |false=>
    have HR:Hid (rs=(v,0,0)):=hZ (Vg.out.trans (if_pos (.inl rfl)));go_wp2
    go_ret2
    exact⟨jQ (by rw[HR.out]) (by rw[HR.out]),by rw[HR.out];exact⟨u,c,cs,M6.out⟩,F6.out⟩
   |true=>
    by_cases c12:k=12
    ·have HR:Hid (rs=(v,0,0)):=hZ (Vg.out.trans (if_pos (.inr c12)))
     have aFx:(k==12)=true:=by rw[beq_iff_eq];exact c12
     go_wp2
     go_ret2
     exact⟨jQ (by rw[HR.out]) (by rw[HR.out]),by rw[HR.out];exact⟨u,c,cs,M6.out⟩,F6.out⟩
    ·have aFx:(k==12)=false:=by rw[beq_eq_false_iff_ne];exact c12
     obtain⟨hHR,hBY⟩:=Qs.out ck c12 rfl;have HHR:=hZ hHR;have Tp:=hZ hBY;obtain⟨n,hn,hnn⟩:=hHR.n2;have aDr:=hZ (Vg.out.trans (if_neg (by simp[c12])));have HNN:=hZ hnn;clear Vg Qs hHR hBY hnn;go_upto_region 13 with fail
     have gc:∀(d:Nat) (os:Array Obj) (b o:Nat),b<w6.heap.size->(grow (redrawn w6 d) os).cell? ⟨b,o,none⟩=w6.cell? ⟨b,o,none⟩:=λd os b o h=>(below_regrown _ d os).cell (p:=⟨b,o,none⟩) h;have d1:Int.tdiv tf 16=tf/16:=Int.tdiv_eq_ediv_of_nonneg h2;have d2:IntKind.i64.wrap (tt -1)=tt -1:=by rw[IntKind.wrap_i64];omega
     have d3:Int.tdiv (tt -1) 16=(tt -1)/16:=Int.tdiv_eq_ediv_of_nonneg (by omega);have b1:0<=tf/16/\tf/16<=(tt -1)/16/\(tt -1)/16<=3:=by omega
     refine fK [] (by kernel_rfl) (by kernel_rfl) ?_;intro V hV;iterate 9 (refine rq rfl rfl ?_;go_big_quiet_step(fail);refine wpQuiet_nil ?_)
     refine rend ?_;intro w7 eX hf;have M7:=hZ (M6.out.below eX);have F7:=hZ (F6.out.trans (aN.of M6.out.hN eX));have O7:=hZ (O6.out.below eX);have T7:=hZ (T6.out.below eX);have BA7:=hZ (BA6.out.below eX);clear hf hV gc d1 d2 d3 o0 t1 t2 a2 lb l2 l3 eX;obtain⟨f1,hf1⟩:∃f1,f1=tf/16:=⟨_,rfl⟩;obtain⟨l4,hl4⟩:∃l4,l4=(tt -1)/16:=⟨_,rfl⟩;obtain⟨tF,htF⟩:∃e,e=oP true wy zs ta:=⟨_,rfl⟩;obtain⟨tK,htK⟩:∃e,e=sF true wy zs ta:=⟨_,rfl⟩;have bK:0<=tK/\tK<=3:=by
      rw[htK];have:=aDA true wy zs ta;have hl:zs.length<=4:=by rw[Qp.out.2];simp;have:=Qp.out.1;omega
      omega
     have HZ5:=Qp.out;rw[<-hf1,<-hl4] at b1 HZ5;rw[<-htF,<-htK,<-hf1] at aDr;rw[<-hf1,<-hl4];obtain⟨b1,b2,b3⟩:=b1;obtain⟨hz1,hz2⟩:=HZ5
     have HTG:=hZ (λ(W:World) (g c:Nat) (cur:Array Value) (hx:Bx W g 3 cur) (hc:∀i,i<4->cur[i]? =some (.int .i64 (z4.getD i 0)))=>aIi ar ak true S9 wy (some ⟨g,f1.toNat,none⟩) ((l4+1).toNat -f1.toNat) c zs ta W W.heap.size (by
      rw[hz2,show(l4+1 -f1).toNat=(l4+1).toNat -f1.toNat by omega]
      exact aOk hx hc hz1 _ _ (by omega)) (nR _))
     rw[<-htF,<-htK] at HTG;have hs1:IntKind.i64.wrap (l4+1)=l4+1:=by rw[IntKind.wrap_i64];omega
     have hC0:CM N Z m r t v.ps w7 { w7 with drawn:=w7.drawn+1 } :=CM.below (Mr.cm ⟨u,c,cs,M7.out⟩) ⟨rfl,rfl,rfl,nR _,λ_ _=>rfl⟩;have hI0:Mr { w7 with drawn:=w7.drawn+1 } N Z m r t v:=Mr.below ⟨u,c,cs,M7.out⟩ ⟨rfl,rfl,rfl,nR _,λ_ _=>rfl⟩;have Jt:Hid (∀W,CM N Z m r t v.ps w7 W->Bx W w.heap.size 26 #[.int .i64 k,.int .i64 K,.int .i64 pg,.int .i64 cn,.int .i64 ri,.int .i64 ke,.bool bR,.int .i64 dr,.int .i64 ad,.int .i64 sz,.int .i64 va,.int .i64 ta]/\Bx W (w.heap.size+1) 163 #[.int .i64 tp,.int .i64 tf,.int .i64 tt]/\Bx W b11 97 #[.int .i64 ar,.int .i64 ak,.bool true,.bool S9]):=hZ (λW hW=>⟨O7.out.bM hW.2 (by decide) (by decide) (by decide),T7.out.bM hW.2 (by decide) (by decide) (by decide),BA7.out.bM hW.2 (by decide) (by decide) (by decide)⟩)
     have Nf:Hid (∀W,CM N Z m r t v.ps w7 W->W.cell? ⟨w.heap.size,0,none⟩=some (.int .i64 k)/\W.cell? ⟨w.heap.size,1,none⟩=some (.int .i64 (K:Int))/\W.cell? ⟨w.heap.size,11,none⟩=some (.int .i64 ta)/\W.cell? ⟨w.heap.size+1,0,none⟩=some (.int .i64 tp)/\w.heap.size<W.heap.size/\w.heap.size+1<W.heap.size):=hZ (λW hW=>by
      obtain⟨q1,q2,q3⟩:=Jt.out W hW
      exact⟨by rw[q1.cell];rfl,by rw[q1.cell];rfl,by rw[q1.cell];rfl,by rw[q2.cell];rfl,q1.lt,q2.lt⟩)
     clear hz1 hz2;go_upto_region 14 with fail
     refine aDT (MD N (CM N Z m r t v.ps w7) 10) (CM N Z m r t v.ps w7) [([10],λW=>Mr W N Z m r t v)] [fG.call 3 (.int .i64 wy),fG.yI (C:=CM N Z m r t v.ps w7) (K:=10) (N:=N) (Z:=Z) (m:=m) (r:=r) (t:=t) (.int .i64 n) hv,fG.aFa 11 z4,fG.call 18 (.tuple #[.int .i64 tF,.int .i64 tK])] (by kernel_rfl) (D7 10 v) hC0 (λp hp=>by rcases List.mem_singleton.1 hp with rfl;exact hI0) (by kernel_rfl) (by kernel_rfl) ?_;intro V hV;have e3:V 3=.int .i64 wy:=hV 3;have e10:V 10=.int .i64 n:=hV 10;have e18:V 18=.tuple #[.int .i64 tF,.int .i64 tK]:=hV 18;obtain⟨gb,aFG,e11,hgc⟩:∃g c,V 11=.slice (some ⟨g,0,none⟩) 4 c/\4<=c:=hV 11;refine df (noW w7) (.agg #[.int .i64 ar,.int .i64 ak,.bool true,.bool S9]) (by kernel_rfl) rfl (λw' hC hi hf=>nU rfl (lN Tryz.underlying97 rfl infoAt (Jt.out _ hC).2.2 (Sub.all _) rfl)) ?_;go_big_quiet_step(fail);refine wpQuiet_nil ?_
     (refine dq (noW w7) (λw h=>h.noW) rfl rfl ?_;go_big_quiet_step(fail);refine wpQuiet_nil ?_)
     refine df (noW w7) (.int .i64 k) (by kernel_rfl) rfl (λw' hC hi hf=>by obtain⟨q1,q2,q3,q4,q5,q6⟩:=Nf.out _ hC;go_simp) ?_;go_big_quiet_step(fail);refine wpQuiet_nil ?_;refine P8 (noW w7) (fG.call 3 _) (by kernel_rfl) rfl (λw' hC hi hf=> ?_) ?_
     ·refine wN (f:=87) (args:= #[.int .i64 k]) (by decide) ?_ ((HWY.out w').mono λe w'' h=>⟨h.1,by rw[h.2];exact Below.refl _ _⟩)
      go_simp
     go_big_quiet_step(fail);refine wpQuiet_nil ?_;simp only[e3];iterate 3 (refine dq (noW w7) (λw h=>h.noW) rfl rfl ?_;go_big_quiet_step(fail);refine wpQuiet_nil ?_)
     refine df (noW w7) (.int .i64 (K:Int)) (by kernel_rfl) rfl (λw' hC hi hf=>by obtain⟨q1,q2,q3,q4,q5,q6⟩:=Nf.out _ hC;go_simp) ?_;go_big_quiet_step(fail);refine wpQuiet_nil ?_
     (refine dq (noW w7) (λw h=>h.noW) rfl rfl ?_;go_big_quiet_step(fail);refine wpQuiet_nil ?_)
     refine df (noW w7) (.int .i64 tp) (by kernel_rfl) rfl (λw' hC hi hf=>by obtain⟨q1,q2,q3,q4,q5,q6⟩:=Nf.out _ hC;go_simp) ?_;go_big_quiet_step(fail);refine wpQuiet_nil ?_;refine P8 (noW w7) (fG.yI (.int .i64 n) hv) (by kernel_rfl) rfl (λw' hC hi hf=> ?_) ?_
     ·have hm:Mr w' N Z m r t v:=hi _ (List.Mem.head _) (by kernel_rfl)
      obtain⟨u',c',cs',hm⟩:=hm;have hh:=Z4 hm HK.out tp false HHR.out;rw[HNN.out,<-HHV.out] at hh;exact rG (f:=86) (args:= #[.pointer (some ⟨m,0,none⟩),.int .i64 (K:Int),.int .i64 tp,.bool false]) hC (by rw[HHV.out];exact aCx _ _ _ _) (by go_simp) hh
     go_big_quiet_step(fail);refine wpQuiet_nil ?_;simp only[e10];refine P8 (noW w7) (fG.aFa 11 z4) (by kernel_rfl) rfl (λw' hC hi hf=> ?_) ?_
     ·have hm:Mr w' N Z m r t hv:=hf _ (List.Mem.head _) (by kernel_rfl) (by kernel_rfl)
      obtain⟨u',c',cs',hm⟩:=hm;have hh:=Ia hm Tp.out n (by omega) (by omega);rw[<-HNN.out,<-HZG.out,HNN.out] at hh;refine aDh (f:=66) (args:= #[.pointer (some ⟨m,0,none⟩),.int .i64 n]) (by decide) ?_ hh;go_simp
     go_big_quiet_step(fail);refine wpQuiet_nil ?_;simp only[e11];iterate 3 (refine dq (noW w7) (λw h=>h.noW) rfl rfl ?_;go_big_quiet_step(fail);refine wpQuiet_nil ?_)
     refine df (noW w7) (.slice (some ⟨gb,f1.toNat,none⟩) ((l4+1).toNat -f1.toNat) (aFG -f1.toNat)) (by kernel_rfl) rfl (λw' hC hi hf=>aNt gb aFG f1 (l4+1) rfl rfl (by rw[hl4];rfl) b1 (by omega) (by omega) hgc (by omega)) ?_;go_big_quiet_step(fail);refine wpQuiet_nil ?_
     (refine dq (noW w7) (λw h=>h.noW) rfl rfl ?_;go_big_quiet_step(fail);refine wpQuiet_nil ?_)
     refine df (noW w7) (.int .i64 ta) (by kernel_rfl) rfl (λw' hC hi hf=>by obtain⟨q1,q2,q3,q4,q5,q6⟩:=Nf.out _ hC;go_simp) ?_;go_big_quiet_step(fail);refine wpQuiet_nil ?_;refine P8 (noW w7) (fG.call 18 _) (by kernel_rfl) rfl (λw' hC hi hf=> ?_) ?_
     ·obtain⟨g',c',cur,e',hx,hc⟩:∃g c cur,Value.slice (some ⟨gb,0,none⟩) 4 aFG=.slice (some ⟨g,0,none⟩) 4 c/\Bx w' g 3 cur/\∀i:Nat,i<4->cur[i]? =some (Value.int .i64 (z4.getD i 0)):=hf _ (List.Mem.head _) (by kernel_rfl) (by kernel_rfl)
      cases e';refine wN (f:=132) (args:= #[.agg #[.int .i64 ar,.int .i64 ak,.bool true,.bool S9],.int .i64 wy,.slice (some ⟨gb,f1.toNat,none⟩) ((l4+1).toNat -f1.toNat) (aFG -f1.toNat),.int .i64 ta]) (by decide) ?_ (HTG.out w' gb _ cur hx hc);go_simp
     go_big_quiet_step(fail);refine wpQuiet_nil ?_;simp only[e18];iterate 5 (refine dq (noW w7) (λw h=>h.noW) rfl rfl ?_;go_big_quiet_step(fail);refine wpQuiet_nil ?_)
     refine Zl ?_;intro w8 hC8 hi hf;have Cz:Mr w8 N Z m r t hv:=hf _ (List.Mem.tail _ (List.Mem.tail _ (List.Mem.head _))) rfl;obtain⟨u8,c8,Xo,Cz⟩:=Cz;have M8:=hZ Cz;have F8:=hZ (F7.out.trans hC8.2);have T8:=hZ (T7.out.bM hC8.2 (by decide) (by decide) (by decide));clear hi hf hV e3 e10 e11 e18 hC8 Cz hC0 hI0 HTG hs1;have l3:w.heap.size+1<w8.heap.size:=T8.out.lt;have t0:w8.cell? ⟨w.heap.size+1,0,none⟩=some (.int .i64 tp):=by rw[T8.out.cell];rfl
     by_cases cz:tF=0
     ·have HR:Hid (rs=(hv,0,0)):=hZ (aDr.out.trans (if_pos cz))
      subst cz;clear aDr;go_wp2
      go_ret2
      exact⟨jQ (by rw[HR.out]) (by rw[HR.out]),by rw[HR.out];exact⟨u8,c8,Xo,M8.out⟩,F8.out⟩
     ·have HR:Hid (rs=(hv,tF,max (tp*64+tf) (tp*64+(f1+tK)*16))):=hZ (aDr.out.trans (if_neg cz))
      have hz0:(tF==0)=false:=by rw[beq_eq_false_iff_ne];exact cz
      clear aDr;go_upto_region 17 with fail
      have gc:∀(d:Nat) (os:Array Obj) (b o:Nat),b<w8.heap.size->(grow (redrawn w8 d) os).cell? ⟨b,o,none⟩=w8.cell? ⟨b,o,none⟩:=λd os b o h=>(below_regrown _ d os).cell (p:=⟨b,o,none⟩) h;obtain⟨bk1,bk2⟩:=bK;have q1:IntKind.i64.wrap (tp*64)=tp*64:=by rw[IntKind.wrap_i64];omega
      have q2:IntKind.i64.wrap (f1+tK)=f1+tK:=by rw[IntKind.wrap_i64];omega
      have q3:IntKind.i64.wrap ((f1+tK)*16)=(f1+tK)*16:=by rw[IntKind.wrap_i64];omega
      have q4:IntKind.i64.wrap (tp*64+(f1+tK)*16)=tp*64+(f1+tK)*16:=by rw[IntKind.wrap_i64];omega
      refine fK [] (by kernel_rfl) (by kernel_rfl) ?_;intro V hV;iterate 13 (refine rq rfl rfl ?_;go_big_quiet_step(fail);refine wpQuiet_nil ?_)
      refine rend ?_;intro w9 bC hf;clear hf hV gc q1 q2 q3 q4;have M9:=hZ (M8.out.below bC);have F9:=hZ (F8.out.trans (aN.of M8.out.hN bC));go_wp2
      go_ret2
      exact⟨jQ (by rw[HR.out];first|rfl|exact htF.symm) (by rw[HR.out];simp only;omega),by rw[HR.out];exact⟨u8,c8,Xo,M9.out⟩,F9.out⟩
 ·have HR:Hid (rs=(v,ft,tp*64+tf)):=hZ (by rw[HST.out,if_pos cf])
  have hne:(ft !=0)=true:=by rw[bne_iff_ne];exact cf
  go_wp2
  go_ret2
  exact⟨jQ (by rw[HR.out]) (by rw[HR.out]),by rw[HR.out];exact⟨u,c,cs,M4.out⟩,F4.out⟩
theorem Re {w w3:World} {N m r t u c g:Nat} {Z:Nat->Prop} {cs z:Array Value} {v:Vm} (hM:Mo w3 N Z m r t u c cs v) (hz:Z g) (hX:Bx w3 g 35 z) (hF:aN N w w3) (hN:N<=w.heap.size) (hg:w.heap.size<=g) (a:Array Value):
 Mo (w3.setRow g a) N Z m r t u c cs v/\aN N w (w3.setRow g a):=
 ⟨hM.other hz hX (by decide) (by decide) (by decide) (by decide) (λb hb=>setRow_other w3 g b a hb) (below_setRow (B:=0) (Below.refl _ _) (Nat.zero_le _) a).size,
  below_setRow hF.1 (Nat.le_trans hN hg) a,λb T cs h1 h2 h3 hx=>(hF.2 b T cs h1 h2 h3 hx).kQ (by have:=hx.lt;omega) a⟩
theorem nL {w w3:World} {N m r t u c g:Nat} {Z:Nat->Prop} {cs z:Array Value} {U:Vm} {a:bX} {x:Vm×bX} (hM:Mo w3 N (λb=>Z b\/b=g) m r t u c cs U) (hX:Bx w3 g 35 z) (hF:aN N w w3) (hN:N<=w.heap.size) (hg:w.heap.size<=g) (hx:x=(U,a)):Ga N Z m r t x w (.returned a.v) (w3.setRow g (nA a)):=by
 obtain⟨q1,q2⟩:=Re hM (.inr rfl) hX hF hN hg (nA a);rw[hx];exact⟨rfl,⟨u,c,cs,q1.less λb hz=>.inl hz⟩,q2⟩
theorem aME {α:Type} {f:α->List Value} {sz:Nat} {T:TypeId} {w:World} {base n c:Nat} {A:Option Addr} {xs:List α} (hf:∀x,(f x).length=sz) (h:Os f sz T w base (.slice A n c) xs) (h0:0<xs.length):∃b cur,A=some ⟨b,0,none⟩/\Bx w b T cur/\∀i x,xs[i]? =some x->∀j u,(f x)[j]? =some u->cur[i*sz+j]? =some u:=by
 have h':=h;obtain⟨h1,⟨_,h⟩|⟨g,cap,cur,e,hg,hh,hn,hm,hz,hx⟩⟩:=h
 ·rw[h] at h0;exact absurd h0 (by decide)
 ·injection e with e1 e2 e3
  subst e1;obtain⟨A,c',e,_,_,hr⟩:=h'.row hf;injection e with e4 _ _;subst e4;refine⟨g,cur,rfl,hh,λi x hx j u hu=> ?_⟩;have:=hr.at_ hf hx j u hu;rwa[dW hh,Nat.zero_add] at this
theorem Mo.tagged {w w':World} {N m r t u c:Nat} {Z:Nat->Prop} {cs:Array Value} {v:Vm} {ts':List Int} (h:Mo w N Z m r t u c cs v) (ho:Own .u8 5 w' N (some ⟨t,0,none⟩) 128 128 ts') (hk:bD (kN (some ⟨t,0,none⟩)) w w'):Mo w' N Z m r t u c cs { v with ts:=ts' } /\aN N w w':=by
 have hk2:bD (λb=>b=r\/b=t) w w':=(bD.refl _ w).trans hk λq hq h=>.inr (by unfold kN at h;injection h with h;injection h with h;exact h.symm);obtain⟨l1,l2,l3,l4⟩:=h.lt;refine⟨h.Rh hk2 (h.iX.same (hk.block r l2 (λe=> ?_))) ho,h.aCL hk2⟩;unfold kN at e;injection e with e;injection e with e;exact h.rt e.symm
theorem Mo.byte {w:World} {N m r t u c:Nat} {Z:Nat->Prop} {cs:Array Value} {v:Vm} (h:Mo w N Z m r t u c cs v) {i:Nat} (hi:i<4096) (x:Int):Mo (w.setCell ⟨r,i,none⟩ (.int .u8 x)) N Z m r t u c cs { v with zs:=v.zs.set i x } /\aN N w (w.setCell ⟨r,i,none⟩ (.int .u8 x)):=by
 have hk:bD (λb=>b=r\/b=t) w (w.setCell ⟨r,i,none⟩ (.int .u8 x)):=(bD.refl _ w).cell (.inl (.inl rfl)) i _;exact⟨h.Rh hk (h.iX.wT hi) (h.tag.same (gW w r i _ t (Ne.symm h.rt))),h.aCL hk⟩
theorem Mo.Fh {w:World} {N m r t u c:Nat} {Z:Nat->Prop} {cs:Array Value} {v:Vm} (h:Mo w N Z m r t u c cs v) {i:Nat} (hi:i<4096):w.cell? ⟨r,i,none⟩=some (.int .u8 (v.zs.getD i 0))/\w.frozen? ⟨r,i,none⟩=false/\r<w.heap.size:=by
 obtain⟨g,e,_,hc⟩:=Wj h.iX (by decide);injection e with e;injection e with e;subst e;obtain⟨cur,hx⟩:=nI h.iX (by decide);exact⟨hc i hi,hx.free i,hx.lt⟩
theorem Y5:(256:Int)^1=256:=by decide
theorem pow2:(256:Int)^2=65536:=by decide
theorem Y4:(256:Int)^3=16777216:=by decide
theorem aMv:(256:Int)^4=4294967296:=by decide
def Zq (v:Vm) (o:aL):List mP->Prop
 | []=>True
 |t::l=>aDo v o t/\((gH v o t).2.1=0->Zq (gH v o t).1 o l)
structure aNG (v:Vm) (o:aL) (t:mP):Prop where
 h:Zu v o.proc.toNat t.p (iU o.kind==2)
 z:Bytes (jW v o.proc.toNat t.p (iU o.kind==2)).zs
 t:Bytes (jW v o.proc.toNat t.p (iU o.kind==2)).ts
def Qi (v:Vm) (o:aL) (n:Nat):List mP->Prop
 | []=>True
 |t::l=>aNG v o t/\Qi (nC v o t n).1 o (n+(t.t -t.f).toNat) l
theorem aEW {w:World} {N m r t u c:Nat} {Z:Nat->Prop} {cs:Array Value} {v:Vm} (h:Mo w N Z m r t u c cs v) (o:aL) (ho:o.fits) (hp0:0<=o.proc) (Mh:o.proc<4) (hS:gM o=true->Zq v o (dD o.addr (aU o)))
 (hT:gM o=true->(dB v o (dD o.addr (aU o))).2.1=0->Qi (dB v o (dD o.addr (aU o))).1 o 0 (dD o.addr (aU o))):
 Calls Tryz.prog 43 #[.pointer (some ⟨m,0,none⟩),o.v] w (Ga N Z m r t (o7 v o) w):=by
 have HFO:=hZ ho;have uK:=hZ (λW=>aFI o ho W);have Hr:=hZ (λ(h:gM o=true)=>Ba h);have hW1:Below w.heap.size w ((w.alloc (.cells (aZ o) 26)).alloc (.cells (nA (aB 0)) 35)):=(aD _ _).alloc (by simp) _;have qZ:Bx ((w.alloc (.cells (aZ o) 26)).alloc (.cells (nA (aB 0)) 35)) w.heap.size 26 (aZ o):=(Bx.new _ _ _).below (aD _ _);have hA1:Bx ((w.alloc (.cells (aZ o) 26)).alloc (.cells (nA (aB 0)) 35)) (w.heap.size+1) 35 (nA (aB 0)):=by
  have:=Bx.new (w.alloc (.cells (aZ o) 26)) 35 (nA (aB 0));rwa[World.size_alloc] at this
 obtain⟨w1,hw1⟩:∃w1,w1=((w.alloc (.cells (aZ o) 26)).alloc (.cells (nA (aB 0)) 35)):=⟨_,rfl⟩;have HW1:Hid (w1=((w.alloc (.cells (aZ o) 26)).alloc (.cells #[.int .i64 0,.int .i64 0,.int .i64 0,.int .i64 0] 35))):=hZ hw1;rw[<-hw1] at hW1 qZ hA1;have M1:=hZ (h.fresh (g:=w.heap.size+1) hW1 (by omega) hA1.lt);have F1:=hZ (aN.of h.hN hW1);have O1:=hZ qZ;have A1:=hZ hA1;have HN:=hZ h.hN;have HSN:Hid (gM o=false->o7 v o=(v,aB 2)):=hZ (λh=>by unfold o7;rw[if_pos h])
 have HSF:Hid (gM o=true->o7 v o=(if(dB v o (dD o.addr (aU o))).2.1≠0 then((dB v o (dD o.addr (aU o))).1,Ca (dB v o (dD o.addr (aU o))).2.1 (dB v o (dD o.addr (aU o))).2.2)
  else((dG (dB v o (dD o.addr (aU o))).1 o 0 (dD o.addr (aU o))).1,⟨0,(dG (dB v o (dD o.addr (aU o))).1 o 0 (dD o.addr (aU o))).2,0,0⟩))):=hZ (λhr=>by unfold o7;rw[if_neg (by rw[hr];simp)])
 have HS:=hZ hS;have HT:=hZ hT;have HP:=hZ (show 0<=o.proc/\o.proc<4 from⟨hp0,Mh⟩);obtain⟨oA,rU⟩:∃oA,oA=aZ o:=⟨_,rfl⟩;have HOA:=hZ rU;have mY:Hid (oA.size=12):=hZ (by rw[rU];rfl);have HOV:Hid (Value.agg oA=o.v):=hZ (by rw[rU];rfl);rw[<-rU] at HW1 O1;rw[<-HOV.out];clear h hW1 qZ hA1 hw1 hS hT hp0 Mh ho rU;cases qC:gM o with
 |false=>
  have HR:=hZ (HSN.out qC);rw[qC] at uK;clear HSF HSN Hr qC HS HT;go_enter Tryz.func43,Tryz.ntmps43
  go_wp2_with(first
   |((with_reducible refine qW Tryz.underlying26 rfl kY w.heap.size 0 oA ?_ ?_ (HW1.out▸O1.out) (Sub.all _) mY.out ?_);rfl;rfl)
   |(go_at_call 83
     rw[<-HW1.out];rw[HOV.out];refine(uK.out w1).mono ?_;rintro e w2 ⟨rfl,hb2⟩;have M2:=hZ (M1.out.below hb2);have F2:=hZ (F1.out.trans (aN.of M1.out.hN hb2));have A2:=hZ (A1.out.below hb2)
     clear hb2)
   |((with_reducible refine fM bN (w.heap.size+1) (nA (aB 2)) ?_ ?_ A2.out rfl rfl (bI _) ?_);rfl;rfl))
  try simp only[Exit.inBlock,Exit.then]
  refine bodyPost_ret (v:=(aB 2).v) ?_ rfl (nL M2.out A2.out F2.out HN.out (by omega) HR.out);rw[bZ rfl];simp[asAddr,Result.andThen,Act.put,aV (A2.out.row _)]
 |true=>
  obtain⟨ht0,ht1,hb0,hb1,hb2,hb3,hb4⟩:=Hr.out qC;have HS2:=hZ (HSF.out qC);have HSS:=hZ (HS.out qC);have HTT:=hZ (HT.out qC);rw[qC] at uK;have HTC:=hZ (λW=>aDz o.addr (aU o) hb0 (by omega) hb2 W);have HTR:=hZ (λ(t:mP) (h:t∈dD o.addr (aU o))=>Ua 65 (o.addr+aU o) o.addr hb0 hb2 t h);have HTE:Hid (dD o.addr (aU o)=kP (o.addr+aU o) 65 o.addr):=hZ rfl;have Hq:Hid ((dD o.addr (aU o)).length<=65):=hZ (aBx _ _ _);have iC:Hid (aU o=if o.kind=13 then o.count*16 else o.size):=hZ rfl;have O0:Hid (oA[0]? =some (.int .i64 o.kind)):=hZ (by rw[HOA.out];rfl);have O1p:Hid (oA[1]? =some (.int .i64 o.proc)):=hZ (by rw[HOA.out];rfl);have O3c:Hid (oA[3]? =some (.int .i64 o.count)):=hZ (by rw[HOA.out];rfl);have O8:Hid (oA[8]? =some (.int .i64 o.addr)):=hZ (by rw[HOA.out];rfl);have O9:Hid (oA[9]? =some (.int .i64 o.size)):=hZ (by rw[HOA.out];rfl);have O10:Hid (oA[10]? =some (.int .i64 o.value)):=hZ (by rw[HOA.out];rfl);have O11:Hid (oA[11]? =some (.int .i64 o.tag)):=hZ (by rw[HOA.out];rfl);have FAD: -9223372036854775808<=o.addr/\o.addr<=9223372036854775807:=HFO.out.2.2.2.2.2.2.2.1;have FVA: -9223372036854775808<=o.value/\o.value<=9223372036854775807:=HFO.out.2.2.2.2.2.2.2.2.2.1;have FCN: -9223372036854775808<=o.count/\o.count<=9223372036854775807:=HFO.out.2.2.2.1;have FSZ: -9223372036854775808<=o.size/\o.size<=9223372036854775807:=HFO.out.2.2.2.2.2.2.2.2.1;clear HSF HSN Hr qC HS HT;obtain⟨rs,hrs⟩:∃rs,rs=o7 v o:=⟨_,rfl⟩;rw[<-hrs] at HS2⊢;clear hrs;obtain⟨ts,hts⟩:∃ts,ts=dD o.addr (aU o):=⟨_,rfl⟩;rw[<-hts] at HS2 HSS HTT HTC HTR HTE Hq;clear hts
  have uI:=hZ (λ(W:World) (u c:Nat) (cs:Array Value) (U:Vm) (hM:Mo W N (λb=>Z b\/b=w.heap.size+1) m r t u c cs U) (x:mP) (hx:x∈ts) (hk:aDo U o x)=>by
   have h:=HTR.out x hx;have:=aGf hM o HFO.out HP.out.1 HP.out.2 x h.1 h.2.1 h.2.2.1 h.2.2.2.1 h.2.2.2.2.1 hk;rw[<-HOV.out] at this
   exact this)
  have aNK:Hid (∀W,Calls Tryz.prog 83 #[.agg oA] W λe w'=>e=.returned (.bool true)/\Below W.heap.size W w'):=hZ (λW=>by rw[HOV.out];exact uK.out W);clear uK;obtain⟨kd,hkd⟩:∃kd,kd=o.kind:=⟨_,rfl⟩;obtain⟨K,hK⟩:∃K:Nat,o.proc=K:=⟨o.proc.toNat,by have:=HP.out;omega⟩;obtain⟨ad,had⟩:∃ad,ad=o.addr:=⟨_,rfl⟩;obtain⟨s9,hs9⟩:∃s9,s9=o.size:=⟨_,rfl⟩;obtain⟨ta,hta⟩:∃ta,ta=o.tag:=⟨_,rfl⟩;obtain⟨va,hva⟩:∃va,va=o.value:=⟨_,rfl⟩;obtain⟨cn,hcn⟩:∃cn,cn=o.count:=⟨_,rfl⟩;obtain⟨sz,hsz⟩:∃sz,sz=aU o:=⟨_,rfl⟩;have HKD:=hZ hkd;have Qv:=hZ hK;have HTA:=hZ hta;have HVA:=hZ hva;have hK4:K<4:=by have:=HP.out;omega
  rw[<-hsz] at hb1 hb2 hb3 hb4 HTC HTE iC;rw[<-hkd] at O0 hb3 hb4 iC;rw[hK] at O1p;rw[<-had] at O8 FAD hb0 hb2 hb3 HTC HTE;rw[<-hs9] at O9 hb4 iC FSZ;rw[<-hta] at O11 ht0 ht1;rw[<-hva] at O10 FVA;rw[<-hcn] at O3c FCN iC;clear hkd hK had hs9 hta hva hcn hsz HTR;have hwc:kd=13->IntKind.i64.wrap (cn*16)=sz:=λh=>by
   have h2:=iC.out;rw[if_pos h] at h2;rw[<-h2,IntKind.wrap_i64];omega
  have hws:kd≠13->s9=sz:=λh=>by
   have h2:=iC.out;rw[if_neg h] at h2;exact h2.symm
  obtain⟨d13,aOR⟩:∃d,d=(kd==13):=⟨_,rfl⟩;go_enter Tryz.func43,Tryz.ntmps43
  go_upto_if 27 with(first
   |((with_reducible refine qW Tryz.underlying26 rfl kY w.heap.size 0 oA ?_ ?_ (HW1.out▸O1.out) (Sub.all _) mY.out ?_);rfl;rfl)
   |(go_at_call 83
     rw[<-HW1.out];refine(aNK.out w1).mono ?_;rintro e w2 ⟨rfl,hb2'⟩;have M2:=hZ (M1.out.below hb2');have F2:=hZ (F1.out.trans (aN.of M1.out.hN hb2'));have A2:=hZ (A1.out.below hb2');have O2:=hZ (O1.out.below hb2');have c0:w2.cell? ⟨w.heap.size,0,none⟩=some (.int .i64 kd):=by rw[O2.out.cell];exact O0.out
     have c3:w2.cell? ⟨w.heap.size,3,none⟩=some (.int .i64 cn):=by rw[O2.out.cell];exact O3c.out
     have c8:w2.cell? ⟨w.heap.size,8,none⟩=some (.int .i64 ad):=by rw[O2.out.cell];exact O8.out
     have c9:w2.cell? ⟨w.heap.size,9,none⟩=some (.int .i64 s9):=by rw[O2.out.cell];exact O9.out
     have cl:w.heap.size<w2.heap.size:=O2.out.lt
     clear hb2'))
  go_cut [5] (λs5 wx=>s5=.int .i64 sz/\wx=w2)
  case first=>
   by_cases ck:kd=13
   ·have hd:(kd==13)=true:=by rw[beq_iff_eq];exact ck
    have hw:=hwc ck;go_wp2
    go_meet
    exact⟨rfl,rfl⟩
   ·have hd:(kd==13)=false:=by rw[beq_eq_false_iff_ne];exact ck
    have hw:=hws ck;go_wp2
    go_meet
    exact⟨by rw[hw],rfl⟩
  case rest=>
   obtain⟨rfl,aOv⟩:=hcut;subst aOv;obtain⟨w2,hw2⟩:∃w2,w2=wc:=⟨_,rfl⟩;rw[<-hw2] at M2 F2 A2 O2 c0 c3 c8 c9 cl⊢;clear hw2 hwc hws;have jN:=Hq.out;go_wp2_with fail
   refine(HTC.out w2).mono ?_;rintro e w3 ⟨vt,rfl,ho3,hb3⟩;obtain⟨A,ct,rfl,aOT,aOS,hr3⟩:=ho3.row aCW;have M3:=hZ (M2.out.below hb3);have F3:=hZ (F2.out.trans (aN.of M2.out.hN hb3));have A3:=hZ (A2.out.below hb3);have O3:=hZ (O2.out.below hb3);have R3:=hZ (λh0=>aME aCW ho3 h0);clear hb3 ho3 hr3 c0 c3 c8 c9 cl;go_wp2;go_loopw [37] (λi wr=>∃(k:Nat) (U:Vm),k<=ts.length/\i=.int .i64 k/\Hid (Mr wr N (λb=>Z b\/b=w.heap.size+1) m r t U)/\Hid (aN N w3 wr)/\Hid (dB v o ts=dB U o (ts.drop k))/\Hid (Zq U o (ts.drop k))) (λi _=>ts.length - (intOf i).toNat)
   case atStart=>exact⟨0,v,by omega,rfl,hZ ⟨u,c,cs,M3.out⟩,hZ (aN.refl _ _),hZ (by rw[List.drop_zero]),hZ (by rw[List.drop_zero];exact HSS.out)⟩
   case round=>
    obtain⟨k,U,hk,rfl,HM,HF,Yh,lS⟩:=hrel;obtain⟨u',c',cs',hM⟩:=HM.out;have M4:=hZ hM;have A4:=hZ (A3.out.bM HF.out (by decide) (by decide) (by decide));have O4:=hZ (O3.out.bM HF.out (by decide) (by decide) (by decide));have F4:=hZ (F3.out.trans HF.out);clear hM HM;by_cases hlt2:k<ts.length
    ·obtain⟨x,hxk⟩:∃x,ts[k]? =some x:=⟨_,List.getElem?_eq_getElem hlt2⟩
     obtain⟨b,cur,rfl,hbx,hcs⟩:=R3.out (by omega);have hbw:=hbx.bM HF.out (by decide) (by decide) (by decide);have Ec:wr.cell? ⟨b,k*3,none⟩=some (.int .i64 x.p):=by rw[hbw.cell];exact hcs k x hxk 0 _ rfl
     have Eb:wr.cell? ⟨b,k*3+1,none⟩=some (.int .i64 x.f):=by rw[hbw.cell];exact hcs k x hxk 1 _ rfl
     have Vo:wr.cell? ⟨b,k*3+2,none⟩=some (.int .i64 x.t):=by rw[hbw.cell];exact hcs k x hxk 2 _ rfl
     have hwb:b<wr.heap.size:=hbw.lt;have hdr:ts.drop k=x::ts.drop (k+1):=by
      rw[List.drop_eq_getElem_cons hlt2];rw[List.getElem?_eq_getElem hlt2] at hxk;rw[Option.some.inj hxk]
     have hso:=lS.out;have hsd:=Yh.out;rw[hdr] at hso hsd;have nJ:=aD wr (.cells #[.int .i64 x.p,.int .i64 x.f,.int .i64 x.t] 163);have HC:=hZ (uI.out _ u' c' cs' U (M4.out.below nJ) x (List.mem_of_getElem? hxk) hso.1);have HFW:=hZ (aN.of M4.out.hN nJ);have Qs:=hZ hso.2;have aF2:=hZ hsd;obtain⟨r3,hr3⟩:∃r3,r3=gH U o x:=⟨_,rfl⟩;have HR3:=hZ hr3;unfold Gst at HC;rw[<-hr3] at HC Qs;clear hr3 hbx hbw hcs hxk hso hsd hdr lS Yh nJ;obtain⟨U5,rf,ra⟩:=r3;simp only at HC Qs;by_cases hz:rf=0
     ·have HS3:Hid (dB v o ts=dB U5 o (ts.drop (k+1))):=hZ (aF2.out.trans (by show(if(gH U o x).2.1≠0 then gH U o x else dB (gH U o x).1 o _)=_;rw[<-HR3.out,if_neg (by simp[hz])]))
      have Yi:=hZ (Qs.out hz);subst hz;clear aF2 Qs HR3
      go_wp2_with(first
       |((with_reducible refine qW Tryz.underlying26 rfl kY w.heap.size 0 oA ?_ ?_ (O4.out.below (aD _ _)) (Sub.all _) mY.out ?_);rfl;rfl)
       |(go_at_call 85
         refine HC.out.mono ?_;rintro e w5 ⟨rfl,kH,gY⟩;have M5:=hZ kH;have F5:=hZ ((HF.out.trans HFW.out).trans gY)
         clear kH gY))
      go_roundw
      case rel=>exact⟨k+1,U5,by omega,by go_num,M5,F5,HS3,Yi⟩
      case measure=>simp[intOf];omega
     ·have HS3:Hid (dB v o ts=(U5,rf,ra)):=hZ (aF2.out.trans (by show(if(gH U o x).2.1≠0 then gH U o x else dB (gH U o x).1 o _)=_;rw[<-HR3.out,if_pos (by simp[hz])]))
      have hne:(rf !=0)=true:=by rw[bne_iff_ne];exact hz
      have HR:Hid (rs=(U5,Ca rf ra)):=hZ (by rw[HS2.out,HS3.out];exact if_pos hz);clear aF2 Qs HS3 HR3
      go_wp2_with(first
       |((with_reducible refine qW Tryz.underlying26 rfl kY w.heap.size 0 oA ?_ ?_ (O4.out.below (aD _ _)) (Sub.all _) mY.out ?_);rfl;rfl)
       |(go_at_call 85
         refine HC.out.mono ?_;rintro e w5 ⟨rfl,⟨u5,c5,cs5,kH⟩,gY⟩;have M5:=hZ kH;have A5:=hZ (A4.out.bM (HFW.out.trans gY) (by decide) (by decide) (by decide));have F5:=hZ (F4.out.trans (HFW.out.trans gY))
         clear kH gY)
       |((with_reducible refine fM bN (w.heap.size+1) (nA (Ca rf ra)) ?_ ?_ A5.out rfl rfl (bI _) ?_);rfl;rfl))
      try simp only[Exit.inBlock,Exit.then]
      refine bodyPost_ret (v:=(Ca rf ra).v) ?_ rfl (nL M5.out A5.out F5.out HN.out (by omega) HR.out);rw[bZ rfl];simp[asAddr,Result.andThen,Act.put,aV (A5.out.row _)]
    ·have hkn:k=ts.length:=by omega
     have HS3:Hid (dB v o ts=(U,0,0)):=hZ (by rw[Yh.out,hkn,List.drop_length];rfl);have rW:Hid (Qi U o 0 ts):=hZ (by have:=HTT.out;rw[HS3.out] at this;exact this rfl);have HR2:Hid (rs=((dG U o 0 ts).1,⟨0,(dG U o 0 ts).2,0,0⟩)):=hZ (by rw[HS2.out,HS3.out];exact if_neg (by simp));clear Yh lS hkn HS3 HS2 HTT HSS uI aNK;obtain⟨w4,hw4⟩:∃w4,w4=wr:=⟨_,rfl⟩;rw[<-hw4] at M4 A4 O4 F4 HF⊢;clear hw4;obtain⟨wy,hwy⟩:∃wy,wy=iU o.kind:=⟨_,rfl⟩;have HWY:=hZ (λ(W:World)=>(aBj kd W));rw[HKD.out,<-hwy,<-HKD.out] at HWY;have HWV:=hZ hwy;clear hwy;have hK0:(0:Int)<=(K:Int):=by omega
     have hKi:(K:Int)<4:=by omega
     go_wp2;go_loopw [11,12,56] (λvv sh i wr=>∃(j f n0:Nat) (Y:Vm) (ac S:Int),j<=ts.length/\i=.int .i64 j/\vv=.int .i64 ac/\sh=.int .i64 S/\Hid (S=if kd=13 then 0 else 8*(n0:Int))/\0<=ac/\Hid (kd≠13->ac<256^n0)/\Hid (kd=13->ac=0/\n0%16=0)/\(n0:Int)<=sz/\Hid (ts.drop j=kP (ad+sz) f (ad+n0))/\Hid (H6 (ad+sz) (ad+n0) f)/\Hid (Mr wr N (λb=>Z b\/b=w.heap.size+1) m r t Y)/\Hid (aN N w4 wr)/\Hid (Qi Y o n0 (ts.drop j))/\Hid (dG U o 0 ts=((dG Y o n0 (ts.drop j)).1,ac+(dG Y o n0 (ts.drop j)).2))) (λ_ _ i _=>ts.length - (intOf i).toNat)
     case atStart=>exact⟨0,65,0,U,0,0,by omega,rfl,rfl,rfl,hZ (by split<;>rfl),by omega,hZ (λ_=>by decide),hZ (λ_=>⟨rfl,rfl⟩),by omega,hZ (by rw[List.drop_zero,HTE.out];simp),hZ (.inr (by omega)),hZ ⟨u',c',cs',M4.out⟩,hZ (aN.refl _ _),hZ (by rw[List.drop_zero];exact rW.out),hZ (by rw[List.drop_zero,Int.zero_add])⟩
     case round=>
      obtain⟨j,f,n0,Y,ac,S,hj,rfl,rfl,rfl,HSV,hac,HA2,HA3,hn0,HTD,aF4,HM,HFY,HTO,HTV⟩:=hrel;obtain⟨uy,cy,csy,hM⟩:=HM.out;have MY:=hZ hM;have AY:=hZ (A4.out.bM HFY.out (by decide) (by decide) (by decide));have OY:=hZ (O4.out.bM HFY.out (by decide) (by decide) (by decide));clear hM HM;by_cases hlt3:j<ts.length
      ·obtain⟨pn,ki,f2,hpk,hki,HXJ,aJQ,aJ0⟩:=aFf hb0 hb2 hlt3 HTD.out aF4.out
       obtain⟨b,cur,rfl,hbx,hcs⟩:=R3.out (by omega);have hbw:=hbx.bM (HF.out.trans HFY.out) (by decide) (by decide) (by decide);obtain⟨e1,he1⟩:∃e1:Int,e1=min (ad+sz) ((pn+1)*64):=⟨_,rfl⟩;rw[<-he1] at aJQ aJ0 HXJ;obtain⟨te,hte⟩:∃te:Int,te=e1 -pn*64:=⟨_,rfl⟩;rw[<-hte] at HXJ;have Ec:wr.cell? ⟨b,j*3,none⟩=some (.int .i64 pn):=by rw[hbw.cell];exact hcs j _ HXJ 0 _ rfl
       have Eb:wr.cell? ⟨b,j*3+1,none⟩=some (.int .i64 ki):=by rw[hbw.cell];exact hcs j _ HXJ 1 _ rfl
       have Vo:wr.cell? ⟨b,j*3+2,none⟩=some (.int .i64 te):=by rw[hbw.cell];exact hcs j _ HXJ 2 _ rfl
       have hwb:b<wr.heap.size:=hbw.lt;have aJP:=hZ aJQ;have aJZ:=hZ aJ0;have be1:ad+n0<e1/\e1<=ad+sz/\e1<=pn*64+64:=by
        have h:=aF4.out;unfold H6 at h;have:¬ad+sz<=ad+n0:=λhh=>by
         have h9:=HTD.out;rw[List.drop_eq_getElem_cons hlt3] at h9;cases f with
         |zero=>cases h9
         |succ f=>unfold kP at h9;rw[if_neg (by omega)] at h9;cases h9
        omega
       obtain⟨be1,be2,be3⟩:=be1;have bpn:pn<64:=by omega
       have bte:(ki:Int)<te/\te<=64:=by omega
       obtain⟨aPX,aPW⟩:=bte;have hdr:ts.drop j=⟨pn,ki,te⟩::ts.drop (j+1):=by
        rw[List.drop_eq_getElem_cons hlt3];rw[List.getElem?_eq_getElem hlt3] at HXJ;rw[Option.some.inj HXJ]
       have hto:=HTO.out;have htv:=HTV.out;rw[hdr] at hto htv;have oN:=hZ hto.1;have HTN:=hZ hto.2;have HTW:Hid (dG U o 0 ts=((dG (nC Y o ⟨pn,ki,te⟩ n0).1 o (n0+(te -ki).toNat) (ts.drop (j+1))).1,ac+((nC Y o ⟨pn,ki,te⟩ n0).2+(dG (nC Y o ⟨pn,ki,te⟩ n0).1 o (n0+(te -ki).toNat) (ts.drop (j+1))).2))):=hZ htv;obtain⟨Y2,hY2⟩:∃Y2,Y2=jW Y K pn (wy==2):=⟨_,rfl⟩;have HPN:Hid (o.proc.toNat=K):=hZ (by rw[Qv.out];rfl);obtain⟨hh1,Sn,hh3⟩:=hto.1;simp only at hh1 Sn hh3;rw[HPN.out,<-HWV.out] at hh1 Sn hh3;rw[<-hY2] at Sn hh3;obtain⟨fr,hfr,hfn⟩:=hh1.n2;have HHR:=hZ hh1;have HBZ:=hZ Sn;have Yk:=hZ hh3;have HFN:=hZ hfn;have HYV:=hZ hY2
       have Mx:Hid (nC Y o ⟨pn,ki,te⟩ n0=if kd=13 then({ Y2 with ts:=mD Y2.ts fr ta (ki/16) (te/16 -ki/16).toNat },0) else if kd=11 then({ Y2 with zs:=storeT Y2.zs fr ki va n0 (te -ki).toNat },0) else(Y2,loadT Y2.zs fr ki n0 (te -ki).toNat)):=hZ (by
        unfold nC;simp only
        rw[HPN.out,<-HWV.out,hfn,<-hY2,<-HKD.out,<-HTA.out,<-HVA.out,show((ki:Int)/16).toNat=ki/16 by omega])
       clear hcs HTD aF4 HXJ aJQ aJ0 hto htv hdr hh1 Sn hh3 hfn hY2 HTO HTV hbx hbw oN;have HTQ:=hZ hte;have Dj:=hZ he1;clear hte he1;go_upto_region 18 with fail
       have nJ:=aD wr (.cells #[.int .i64 pn,.int .i64 ki,.int .i64 te] 163);have T5:=hZ (Bx.new wr 163 #[.int .i64 pn,.int .i64 ki,.int .i64 te]);have M5:=hZ (MY.out.below nJ);have F5:=hZ (HFY.out.trans (aN.of MY.out.hN nJ));have O5:=hZ (OY.out.below nJ);obtain⟨tb,htb⟩:∃tb,tb=wr.heap.size:=⟨_,rfl⟩;rw[<-htb] at T5⊢;obtain⟨w5,aMZ⟩:∃w5,w5=wr.alloc (.cells #[.int .i64 pn,.int .i64 ki,.int .i64 te] 163):=⟨_,rfl⟩;rw[<-aMZ] at T5 M5 F5 O5⊢;clear nJ aMZ htb Ec Eb Vo hwb MY OY AY HFY;have hC0:CM N (λb=>Z b\/b=w.heap.size+1) m r t Y.ps w5 { w5 with drawn:=w5.drawn+1 } :=CM.below (Mr.cm ⟨uy,cy,csy,M5.out⟩) ⟨rfl,rfl,rfl,nR _,λ_ _=>rfl⟩;have hI0:Mr { w5 with drawn:=w5.drawn+1 } N (λb=>Z b\/b=w.heap.size+1) m r t Y:=Mr.below ⟨uy,cy,csy,M5.out⟩ ⟨rfl,rfl,rfl,nR _,λ_ _=>rfl⟩
       have Nf:Hid (∀W,CM N (λb=>Z b\/b=w.heap.size+1) m r t Y.ps w5 W->W.cell? ⟨w.heap.size,0,none⟩=some (.int .i64 kd)/\W.cell? ⟨w.heap.size,1,none⟩=some (.int .i64 (K:Int))/\W.cell? ⟨tb,0,none⟩=some (.int .i64 pn)/\w.heap.size<W.heap.size/\tb<W.heap.size):=hZ (λW hW=>by
        have q1:=O5.out.bM hW.2 (by decide) (by decide) (by decide);have q2:=T5.out.bM hW.2 (by decide) (by decide) (by decide)
        exact⟨by rw[q1.cell];exact O0.out,by rw[q1.cell];exact O1p.out,by rw[q2.cell];rfl,q1.lt,q2.lt⟩)
       refine aDT (MD N (CM N (λb=>Z b\/b=w.heap.size+1) m r t Y.ps w5) 9) (CM N (λb=>Z b\/b=w.heap.size+1) m r t Y.ps w5) [([9],λW=>Mr W N (λb=>Z b\/b=w.heap.size+1) m r t Y)] [fG.call 7 (.int .i64 wy),fG.yI (C:=CM N (λb=>Z b\/b=w.heap.size+1) m r t Y.ps w5) (K:=9) (N:=N) (Z:=λb=>Z b\/b=w.heap.size+1) (m:=m) (r:=r) (t:=t) (.int .i64 fr) Y2] (by kernel_rfl) (D7 9 Y) hC0 (λp hp=>by rcases List.mem_singleton.1 hp with rfl;exact hI0) (by kernel_rfl) (by kernel_rfl) ?_;intro V hV;have e7:V 7=.int .i64 wy:=hV 7;have e9:V 9=.int .i64 fr:=hV 9;iterate 2 (refine dq (noW w5) (λw h=>h.noW) rfl rfl ?_;go_big_quiet_step(fail);refine wpQuiet_nil ?_)
       refine df (noW w5) (.int .i64 (K:Int)) (by kernel_rfl) rfl (λw' hC hi hf=>by obtain⟨q1,q2,q3,q4,q5⟩:=Nf.out _ hC;go_simp) ?_;go_big_quiet_step(fail);refine wpQuiet_nil ?_
       (refine dq (noW w5) (λw h=>h.noW) rfl rfl ?_;go_big_quiet_step(fail);refine wpQuiet_nil ?_)
       refine df (noW w5) (.int .i64 (pn:Int)) (by kernel_rfl) rfl (λw' hC hi hf=>by obtain⟨q1,q2,q3,q4,q5⟩:=Nf.out _ hC;go_simp) ?_;go_big_quiet_step(fail);refine wpQuiet_nil ?_
       (refine dq (noW w5) (λw h=>h.noW) rfl rfl ?_;go_big_quiet_step(fail);refine wpQuiet_nil ?_)
       refine df (noW w5) (.int .i64 kd) (by kernel_rfl) rfl (λw' hC hi hf=>by obtain⟨q1,q2,q3,q4,q5⟩:=Nf.out _ hC;go_simp) ?_;go_big_quiet_step(fail);refine wpQuiet_nil ?_;refine P8 (noW w5) (fG.call 7 _) (by kernel_rfl) rfl (λw' hC hi hf=> ?_) ?_
       ·refine wN (f:=87) (args:= #[.int .i64 kd]) (by decide) ?_ ((HWY.out w').mono λe w'' h=>⟨h.1,by rw[h.2];exact Below.refl _ _⟩)
        go_simp
       go_big_quiet_step(fail);refine wpQuiet_nil ?_;simp only[e7]
       (refine dq (noW w5) (λw h=>h.noW) rfl rfl ?_;go_big_quiet_step(fail);refine wpQuiet_nil ?_)
       refine P8 (noW w5) (fG.yI (.int .i64 fr) Y2) (by kernel_rfl) rfl (λw' hC hi hf=> ?_) ?_
       ·have hm:Mr w' N (λb=>Z b\/b=w.heap.size+1) m r t Y:=hi _ (List.Mem.head _) (by kernel_rfl)
        obtain⟨u',c',cs',hm⟩:=hm;have hh:=Z4 hm hK4 pn (wy==2) HHR.out;rw[HFN.out,<-HYV.out] at hh;exact rG (f:=86) (args:= #[.pointer (some ⟨m,0,none⟩),.int .i64 (K:Int),.int .i64 pn,.bool (wy==2)]) hC (by rw[HYV.out];exact aCx _ _ _ _) (by go_simp) hh
       go_big_quiet_step(fail);refine wpQuiet_nil ?_;simp only[e9]
       (refine dq (noW w5) (λw h=>h.noW) rfl rfl ?_;go_big_quiet_step(fail);refine wpQuiet_nil ?_)
       refine Zl ?_;intro w6 hC6 hi hf;have rV:Mr w6 N (λb=>Z b\/b=w.heap.size+1) m r t Y2:=hf _ (List.Mem.head _) rfl;obtain⟨u6,c6,Da,rV⟩:=rV;have M6:=hZ rV;have F6:=hZ (F5.out.trans hC6.2);have T6:=hZ (T5.out.bM hC6.2 (by decide) (by decide) (by decide));have O6:=hZ (O5.out.bM hC6.2 (by decide) (by decide) (by decide));clear hi hf hV e7 e9 hC6 rV hC0 hI0 M5 F5 T5 O5 Nf HHR HFN HYV;have c0:w6.cell? ⟨w.heap.size,0,none⟩=some (.int .i64 kd):=by rw[O6.out.cell];exact O0.out
       have t1:w6.cell? ⟨tb,1,none⟩=some (.int .i64 ki):=by rw[T6.out.cell];rfl
       have l6:w.heap.size<w6.heap.size:=O6.out.lt;have l7:tb<w6.heap.size:=T6.out.lt;by_cases ck:kd=13
       ·obtain⟨aOZ,hn16⟩:=HA3.out ck
        obtain⟨aPT,aPS⟩:=hb3 ck;clear hb3 hb4 FVA FCN FSZ;have Yj:S=0:=by have:=HSV.out;rw[if_pos ck] at this;exact this
        obtain⟨kg,hkg⟩:∃kg:Nat,ki=16*kg:=⟨ki/16,by omega⟩;obtain⟨tg,htg⟩:∃tg:Nat,te=16*(tg:Int):=⟨(te/16).toNat,by have:=HTQ.out;have:=Dj.out;omega⟩;have aF0:Hid (nC Y o ⟨pn,ki,te⟩ n0=({ Y2 with ts:=mD Y2.ts fr ta kg (tg -kg) },0)):=hZ (by rw[Mx.out,if_pos ck,show ki/16=kg by omega,show(te/16 - (ki:Int)/16).toNat=tg -kg by omega]);have hTE:=HTQ.out;have HQ:Hid (n0+(te -ki).toNat=n0+16*(tg -kg)/\e1=ad+((n0+16*(tg -kg):Nat):Int)):=hZ (by omega);have Mg:((n0+16*(tg -kg):Nat):Int)<=sz:=by omega
        have aOD:(n0+16*(tg -kg))%16=0:=by omega
        have hkt:kg<tg:=by omega
        have ht4:tg<=4:=by omega
        have Ve:=HTN.out;have Vd:=HTW.out;rw[aF0.out,HQ.out.1] at Ve Vd;have aJN:=hZ Ve;have aJM:=hZ Vd;have Vf:=aJP.out;have Vj:=aJZ.out;rw[HQ.out.2] at Vf Vj;have aJO:=hZ Vf;have aJY:=hZ Vj;subst aOZ Yj ck htg hkg;have htd:Int.tdiv ((16*kg:Nat):Int) 16=kg:=by rw[Int.tdiv_eq_ediv_of_nonneg (by omega)];omega
        clear Mx aF0 HTN HTW Ve Vd aJP aJZ Vf Vj hTE Dj HSV HQ;go_wp2;clear t1 l6 l7 c0 htd;go_loopw [16] (λkk wr=>∃q:Nat,kg+q<=tg/\kk=.int .i64 ((kg+q:Nat):Int)/\Hid (Mr wr N (λb=>Z b\/b=w.heap.size+1) m r t { Y2 with ts:=mD Y2.ts fr ta kg q })/\Hid (aN N w6 wr)) (λkk _=>64 - (intOf kk).toNat)
        case atStart=>exact⟨0,by omega,by first|rfl|(congr 1;omega),hZ ⟨u6,c6,Da,M6.out⟩,hZ (aN.refl _ _)⟩
        case round=>
         obtain⟨q,hq,rfl,Dh,xY⟩:=hrel;obtain⟨u7,c7,xR,hM7⟩:=Dh.out;have M7:=hZ hM7;have T7:=hZ (T6.out.bM xY.out (by decide) (by decide) (by decide));have O7:=hZ (O6.out.bM xY.out (by decide) (by decide) (by decide));have t2:wr.cell? ⟨tb,2,none⟩=some (.int .i64 (16*(tg:Int))):=by rw[T7.out.cell];rfl
         have l7:tb<wr.heap.size:=T7.out.lt;have lo7:w.heap.size<wr.heap.size:=O7.out.lt;have c11:wr.cell? ⟨w.heap.size,11,none⟩=some (.int .i64 ta):=by rw[O7.out.cell];exact O11.out
         have htd:Int.tdiv (16*(tg:Int)) 16=tg:=by rw[Int.tdiv_eq_ediv_of_nonneg (by omega)];omega
         clear hM7 Dh;by_cases aOK:kg+q<tg
         ·have hgo:((kg+q:Nat):Int)<(tg:Int):=by omega
          have c1:=M7.out.aFT;have lm:=M7.out.size;go_upto_region 23 with fail
          have gc:∀(d:Nat) (os:Array Obj) (b o:Nat),b<wr.heap.size->(grow (redrawn wr d) os).cell? ⟨b,o,none⟩=wr.cell? ⟨b,o,none⟩:=λd os b o h=>(below_regrown _ d os).cell (p:=⟨b,o,none⟩) h;have aOw:IntKind.i64.wrap ((fr:Int)*4+((kg+q:Nat):Int))=(fr:Int)*4+((kg+q:Nat):Int):=by rw[IntKind.wrap_i64];omega
          have HOF:=hZ (λW=>Dn (fr:Int) (by omega) (by omega) W);refine kD 10 [Sp.call 5 (.int .i64 ((fr:Int)*4))] (by kernel_rfl) (by kernel_rfl) (by kernel_rfl) ?_;intro V hV;have e5:V 5=.int .i64 ((fr:Int)*4):=hV 5;simp only[List.take_succ_cons,List.take_zero,List.drop_succ_cons,List.drop_zero]
          (refine rq rfl rfl ?_;go_big_quiet_step(fail);refine wpQuiet_nil ?_)
          refine rn ⟨m,0,none⟩ (by kernel_rfl) rfl rfl ?_;go_big_quiet_step(fail);refine wpQuiet_nil ?_;iterate 3 (refine rq rfl rfl ?_;go_big_quiet_step(fail);refine wpQuiet_nil ?_)
          refine mQ (Sp.call 5 _) (by kernel_rfl) rfl (λw' hb hf=> ?_) ?_
          ·refine rF (f:=89) (args:= #[.int .i64 (fr:Int)]) ?_ (HOF.out w')
           go_simp
          go_big_quiet_step(fail);refine wpQuiet_nil ?_;simp only[e5];iterate 4 (refine rq rfl rfl ?_;go_big_quiet_step(fail);refine wpQuiet_nil ?_)
          refine rend ?_;intro w8 zK hf;have M8:=hZ (M7.out.below zK);have F8:=hZ (xY.out.trans (aN.of M7.out.hN zK));have aPu:Hid (Bytes (mD Y2.ts fr ta kg q)):=hZ (Ay Yk.out _ (by omega) (by omega) _ _);clear hf hV gc e5 zK c1 lm c11 lo7 l7 t2 aOw
          go_wp2_with(
           go_at_call 88
           refine(Vy (some ⟨t,0,none⟩) 128 128 (mD Y2.ts fr ta kg q) _ ta w8 N M8.out.tag aPu.out (by omega) (by omega) (by omega) (by omega) (by decide)).mono ?_;rintro e w9 ⟨rfl,W9,hk9⟩;have M9:=hZ (M8.out.tagged W9 hk9).1;have F9:=hZ (F8.out.trans (M8.out.tagged W9 hk9).2)
           clear W9 hk9)
          go_roundw
          case rel=>exact⟨q+1,by omega,by go_num,hZ ⟨u7,c7,xR,M9.out⟩,F9⟩
          case measure=>simp[intOf];omega
         ·have hqe:kg+q=tg:=by omega
          have aM5:q=tg -kg:=by omega
          have hgo:(tg:Int)<=((kg+q:Nat):Int):=by omega
          rw[aM5] at M7;have M9:=M7;have F9:=hZ (F6.out.trans xY.out);clear hqe aM5;go_wp2;go_roundw
          case rel=>exact⟨j+1,f2,n0+16*(tg -kg),_,0,0,by omega,by go_num,rfl,rfl,hZ (by simp),by omega,hZ (λh=>absurd rfl h),hZ (λ_=>⟨rfl,aOD⟩),Mg,aJO,aJY,hZ ⟨u7,c7,xR,M9.out⟩,F9,aJN,hZ (by have:=aJM.out;simpa using this)⟩
          case measure=>simp[intOf];omega
       ·have aPQ:=(hb4 ck).2
        have aNk:=(hb4 ck).1;clear hb3 hb4 FCN FSZ;have Yj:S=((8*n0:Nat):Int):=by have:=HSV.out;rw[if_neg ck] at this;omega
        have aOY:=HA2.out ck;have aOM:(kd==13)=false:=by rw[beq_eq_false_iff_ne];exact ck
        obtain⟨p,hp⟩:∃p:Nat,(fr:Int)*64=p:=⟨fr*64,by omega⟩;have hp2:p=fr*64:=by omega
        have Tp:=hZ (J5 M6.out (fr:Int) (by omega) (by omega));rw[hp,Int.toNat_natCast] at Tp
        have aF0:Hid (nC Y o ⟨pn,ki,te⟩ n0=({ Y2 with zs:=if kd=11 then storeT Y2.zs fr ki va n0 (te -ki).toNat else Y2.zs },if kd=11 then 0 else loadT Y2.zs fr ki n0 (te -ki).toNat)):=hZ (by
         rw[Mx.out,if_neg ck];by_cases e:kd=11
         ·simp only[if_pos e]
         ·simp only[if_neg e])
        have HPZ:=hZ hp2;have htq:=HTQ.out;have bsz:(n0:Int)+(te -ki)<=4:=by omega
        subst Yj;have vU:=hZ aNk;clear Mx hp hp2 HSV aNk htq;go_wp2_with(go_at_call 65;refine Tp.out.mono ?_;rintro e w' ⟨rfl,hw⟩;rw[hw];clear hw)
        clear t1 l6 l7 c0;go_loopw [11,12,18] (λvv sh kk wr=>∃(q kj:Nat) (a2:Int),kj+n0=ki+q/\n0<=q/\(kj:Int)<=te/\vv=.int .i64 a2/\sh=.int .i64 (8*q:Nat)/\kk=.int .i64 kj/\0<=a2/\Hid (a2<256^q)/\Hid (a2=ac+if kd=11 then 0 else loadT Y2.zs fr ki n0 (q -n0))/\Hid (Mr wr N (λb=>Z b\/b=w.heap.size+1) m r t { Y2 with zs:=if kd=11 then storeT Y2.zs fr ki va n0 (q -n0) else Y2.zs })/\Hid (aN N w6 wr)) (λ_ _ kk _=>64 - (intOf kk).toNat)
        case atStart=>exact⟨n0,ki,ac,by omega,by omega,by omega,rfl,rfl,rfl,hac,hZ aOY,hZ (by rw[Nat.sub_self,show(if kd=11 then 0 else loadT Y2.zs fr ki n0 0)=0 from ite_self 0];omega),hZ ⟨u6,c6,Da,by rw[Nat.sub_self,show(if kd=11 then storeT Y2.zs fr ki va n0 0 else Y2.zs)=Y2.zs from ite_self _];exact M6.out⟩,hZ (aN.refl _ _)⟩
        case round=>
         obtain⟨q,kj,a2,hq1,hq2,hq3,rfl,rfl,rfl,aCF,HA7,HV7,Dh,xY⟩:=hrel;obtain⟨u7,c7,xR,hM7⟩:=Dh.out;have M7:=hZ hM7;have T7:=hZ (T6.out.bM xY.out (by decide) (by decide) (by decide));have O7:=hZ (O6.out.bM xY.out (by decide) (by decide) (by decide));have t2:wr.cell? ⟨tb,2,none⟩=some (.int .i64 te):=by rw[T7.out.cell];rfl
         have l7:tb<wr.heap.size:=T7.out.lt;have lo7:w.heap.size<wr.heap.size:=O7.out.lt;have c0:wr.cell? ⟨w.heap.size,0,none⟩=some (.int .i64 kd):=by rw[O7.out.cell];exact O0.out
         have c10:wr.cell? ⟨w.heap.size,10,none⟩=some (.int .i64 va):=by rw[O7.out.cell];exact O10.out
         clear hM7 Dh;by_cases aOK:(kj:Int)<te
         ·obtain⟨cb,fb,lb⟩:=M7.out.Fh (i:=p+kj) (by have:=HPZ.out;omega)
          have hix:((fr:Int)*64+(ki:Int)).toNat+(q -n0)=p+kj:=by have:=HPZ.out;omega
          have hq4:q=0\/q=1\/q=2\/q=3:=by omega
          by_cases c11:kd=11
          ·have aFD:a2=ac:=by have:=HV7.out;rw[if_pos c11] at this;omega
           have ha9:=HA7.out
           have HSS:Hid (storeT Y2.zs fr ki va n0 (q+1 -n0)=(storeT Y2.zs fr ki va n0 (q -n0)).set (p+kj) (va/256^q%256)):=hZ (by
            rw[show q+1 -n0=(q -n0)+1 by omega,<-hix];show(storeT Y2.zs fr ki va n0 (q -n0)).set _ (va/256^(n0+(q -n0))%256)=_
            rw[show n0+(q -n0)=q by omega])
           have PK:=hZ (M7.out.byte (i:=p+kj) (by have:=HPZ.out;omega) (va/256^q%256));have HIF:Hid ((if kd=11 then storeT Y2.zs fr ki va n0 (q -n0) else Y2.zs)=storeT Y2.zs fr ki va n0 (q -n0)):=hZ (if_pos c11);simp only[HIF.out] at PK cb;rw[<-HSS.out] at PK;generalize(storeT Y2.zs fr ki va n0 (q -n0)).getD (p+kj) 0=xb at*;clear HIF HSS M7 HA7 HV7 hix;subst c11;rcases hq4 with rfl|rfl|rfl|rfl
           ·have Ql:Hid (Mo (wr.setCell ⟨r,p+kj,none⟩ (.int .u8 (va%256))) N (λb=>Z b\/b=w.heap.size+1) m r t u7 c7 xR { Y2 with zs:=storeT Y2.zs fr ki va n0 (0+1 -n0) }):=hZ (by
             have:=PK.out.1;rw[Int.pow_zero,Int.ediv_one] at this
             exact this)
            have F9:=PK.out.2;rw[Int.pow_zero,Int.ediv_one] at F9;have FK9:=hZ (xY.out.trans F9);clear PK F9;go_wp2;go_roundw
            case rel=>exact⟨1,kj+1,a2,by omega,by omega,by omega,rfl,rfl,by go_num,aCF,hZ (by simp only[Int.pow_zero,Y5] at ha9⊢;omega),hZ (by simp[aFD]),hZ ⟨u7,c7,xR,by first|exact Ql.out|(rw[if_pos rfl];exact Ql.out)⟩,FK9⟩
            case measure=>simp[intOf];omega
           ·have Ql:Hid (Mo (wr.setCell ⟨r,p+kj,none⟩ (.int .u8 (va/256%256))) N (λb=>Z b\/b=w.heap.size+1) m r t u7 c7 xR { Y2 with zs:=storeT Y2.zs fr ki va n0 (1+1 -n0) }):=hZ (by
             have:=PK.out.1;rw[Y5] at this
             exact this)
            have F9:=PK.out.2;rw[Y5] at F9;have FK9:=hZ (xY.out.trans F9);clear PK F9;go_wp2;go_roundw
            case rel=>exact⟨2,kj+1,a2,by omega,by omega,by omega,rfl,rfl,by go_num,aCF,hZ (by simp only[Y5,pow2] at ha9⊢;omega),hZ (by simp[aFD]),hZ ⟨u7,c7,xR,by first|exact Ql.out|(rw[if_pos rfl];exact Ql.out)⟩,FK9⟩
            case measure=>simp[intOf];omega
           ·have Ql:Hid (Mo (wr.setCell ⟨r,p+kj,none⟩ (.int .u8 (va/65536%256))) N (λb=>Z b\/b=w.heap.size+1) m r t u7 c7 xR { Y2 with zs:=storeT Y2.zs fr ki va n0 (2+1 -n0) }):=hZ (by
             have:=PK.out.1;rw[pow2] at this
             exact this)
            have F9:=PK.out.2;rw[pow2] at F9;have FK9:=hZ (xY.out.trans F9);clear PK F9;go_wp2;go_roundw
            case rel=>exact⟨3,kj+1,a2,by omega,by omega,by omega,rfl,rfl,by go_num,aCF,hZ (by simp only[pow2,Y4] at ha9⊢;omega),hZ (by simp[aFD]),hZ ⟨u7,c7,xR,by first|exact Ql.out|(rw[if_pos rfl];exact Ql.out)⟩,FK9⟩
            case measure=>simp[intOf];omega
           ·have Ql:Hid (Mo (wr.setCell ⟨r,p+kj,none⟩ (.int .u8 (va/16777216%256))) N (λb=>Z b\/b=w.heap.size+1) m r t u7 c7 xR { Y2 with zs:=storeT Y2.zs fr ki va n0 (3+1 -n0) }):=hZ (by
             have:=PK.out.1;rw[Y4] at this
             exact this)
            have F9:=PK.out.2;rw[Y4] at F9;have FK9:=hZ (xY.out.trans F9);clear PK F9;go_wp2;go_roundw
            case rel=>exact⟨4,kj+1,a2,by omega,by omega,by omega,rfl,rfl,by go_num,aCF,hZ (by simp only[Y4,aMv] at ha9⊢;omega),hZ (by simp[aFD]),hZ ⟨u7,c7,xR,by first|exact Ql.out|(rw[if_pos rfl];exact Ql.out)⟩,FK9⟩
            case measure=>simp[intOf];omega
          ·have hne:(kd==11)=false:=by rw[beq_eq_false_iff_ne];exact c11
           have HLS:Hid (loadT Y2.zs fr ki n0 (q+1 -n0)=loadT Y2.zs fr ki n0 (q -n0)+Y2.zs.getD (p+kj) 0*256^q):=hZ (by
            rw[show q+1 -n0=(q -n0)+1 by omega,<-hix];show loadT Y2.zs fr ki n0 (q -n0)+Y2.zs.getD _ 0*256^(n0+(q -n0))=_
            rw[show n0+(q -n0)=q by omega])
           simp only[if_neg c11] at cb;have hby:=HBZ.out (p+kj);obtain⟨Hg,hbv⟩:∃x,x=Y2.zs.getD (p+kj) 0:=⟨_,rfl⟩;rw[<-hbv] at cb hby HLS;obtain⟨aPN,aPM⟩:=hby;clear hbv hix;rcases hq4 with rfl|rfl|rfl|rfl
           ·have hl2:=HA7.out
            go_wp2;go_roundw
            case rel=>
             refine⟨1,kj+1,a2+Hg,by omega,by omega,by omega,?_,rfl,by go_num,by omega,hZ (by simp only[Int.pow_zero,Y5] at hl2⊢;omega),hZ (by rw[if_neg c11,HLS.out,HV7.out,if_neg c11,Int.add_assoc];simp),hZ ⟨u7,c7,xR,by have h9:=M7.out;simp only[if_neg c11] at h9⊢;exact h9⟩,xY⟩;rw[vK 0 a2 Hg (by omega) (by simp at hl2⊢;omega) (by omega) (by omega) (by simp at hl2;omega)]
            case measure=>simp[intOf];omega
           ·have hl2:=HA7.out
            go_wp2;go_roundw
            case rel=>
             refine⟨2,kj+1,a2+(Hg*256),by omega,by omega,by omega,?_,rfl,by go_num,by omega,hZ (by simp only[Y5,pow2] at hl2⊢;omega),hZ (by rw[if_neg c11,HLS.out,HV7.out,if_neg c11,Int.add_assoc];simp),hZ ⟨u7,c7,xR,by have h9:=M7.out;simp only[if_neg c11] at h9⊢;exact h9⟩,xY⟩;rw[vK 8 a2 (Hg*256) (by omega) (by simp at hl2⊢;omega) (by omega) (by omega) (by simp at hl2;omega)]
            case measure=>simp[intOf];omega
           ·have hl2:=HA7.out
            go_wp2;go_roundw
            case rel=>
             refine⟨3,kj+1,a2+(Hg*65536),by omega,by omega,by omega,?_,rfl,by go_num,by omega,hZ (by simp only[pow2,Y4] at hl2⊢;omega),hZ (by rw[if_neg c11,HLS.out,HV7.out,if_neg c11,Int.add_assoc];simp),hZ ⟨u7,c7,xR,by have h9:=M7.out;simp only[if_neg c11] at h9⊢;exact h9⟩,xY⟩;rw[vK 16 a2 (Hg*65536) (by omega) (by simp at hl2⊢;omega) (by omega) (by omega) (by simp at hl2;omega)]
            case measure=>simp[intOf];omega
           ·have hl2:=HA7.out
            go_wp2;go_roundw
            case rel=>
             refine⟨4,kj+1,a2+(Hg*16777216),by omega,by omega,by omega,?_,rfl,by go_num,by omega,hZ (by simp only[Y4,aMv] at hl2⊢;omega),hZ (by rw[if_neg c11,HLS.out,HV7.out,if_neg c11,Int.add_assoc];simp),hZ ⟨u7,c7,xR,by have h9:=M7.out;simp only[if_neg c11] at h9⊢;exact h9⟩,xY⟩;rw[vK 24 a2 (Hg*16777216) (by omega) (by simp at hl2⊢;omega) (by omega) (by omega) (by simp at hl2;omega)]
            case measure=>simp[intOf];omega
         ·have hqe:(kj:Int)=te:=by omega
          have hgo:te<=(kj:Int):=by omega
          have hqq:q -n0=(te -ki).toNat:=by omega
          have hqn:n0+(te -ki).toNat=q:=by omega
          have hea:e1=ad+(q:Int):=by have htq:=HTQ.out;omega
          have Vf:=aJP.out;have Vj:=aJZ.out;have Ve:=HTN.out;have Vd:=HTW.out;rw[hea] at Vf Vj;rw[aF0.out,hqn,<-hqq] at Ve Vd;have aJO:=hZ Vf;have aJY:=hZ Vj;have aJN:=hZ Ve;have aJM:Hid (dG U o 0 ts=((dG { Y2 with zs:=if kd=11 then storeT Y2.zs fr ki va n0 (q -n0) else Y2.zs } o q (ts.drop (j+1))).1,a2+(dG { Y2 with zs:=if kd=11 then storeT Y2.zs fr ki va n0 (q -n0) else Y2.zs } o q (ts.drop (j+1))).2)):=hZ (by rw[Vd,HV7.out,Int.add_assoc]);have F9:=hZ (F6.out.trans xY.out);have Mg:(q:Int)<=sz:=by omega
          clear hqe hqq hqn hea Vf Vj Ve Vd;go_wp2;go_roundw
          case rel=>exact⟨j+1,f2,q,_,a2,((8*q:Nat):Int),by omega,by go_num,rfl,rfl,hZ (by rw[if_neg ck];omega),aCF,hZ (λ_=>HA7.out),hZ (λh=>absurd h ck),Mg,aJO,aJY,hZ ⟨u7,c7,xR,M7.out⟩,F9,aJN,aJM⟩
          case measure=>simp[intOf];omega
      ·have hjn:j=ts.length:=by omega
       have HR:Hid (rs=(Y,⟨0,ac,0,0⟩)):=hZ (by rw[HR2.out,HTV.out,hjn,List.drop_length];simp[dG]);have F9:=hZ (F4.out.trans HFY.out);have HNS:Hid ((nA ⟨0,ac,0,0⟩).size=4):=hZ rfl;have HNZ:Hid ((nA (aB 0)).size=4):=hZ rfl;clear hjn HTV HTD aF4 HSV HA2 HA3 hb3 hb4 FVA FCN FSZ FAD HTC jN aOT aOS R3 aOR HTE iC rW HWY HWV;go_upto_region 33 with fail
       have HX9:=hZ (AY.out.row (nA ⟨0,ac,0,0⟩));have HG9:=hZ (nL MY.out AY.out F9.out HN.out (by omega) HR.out);generalize Mf:wr.setRow (w.heap.size+1) (nA ⟨0,ac,0,0⟩)=w9 at HX9 HG9;go_wp2_with((with_reducible refine fM bN (w.heap.size+1) (nA ⟨0,ac,0,0⟩) ?_ ?_ AY.out HNZ.out HNS.out (bI _) ?_);rfl;rfl;rw[Mf];rename_i hK;simp only[wpList,Exit.then];refine hK _ _ ?_;clear hK;refine wp_ret ?_;refine bodyPost_ret (v:=(bX.mk 0 ac 0 0).v) ?_ rfl HG9.out;rw[bZ rfl];simp[asAddr,Result.andThen,Act.put,aV HX9.out])
end Go.Proofs.YtoogfmbojlpjaaaGreat
