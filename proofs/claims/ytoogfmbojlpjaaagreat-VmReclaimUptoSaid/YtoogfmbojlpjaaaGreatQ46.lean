/- Lemmas. -/
import Derived.Test.YtoogfmbojlpjaaaGreatQ20
import Derived.Test.YtoogfmbojlpjaaaGreatQ45
import Derived.Test.YtoogfmbojlpjaaaGreatQA
set_option maxRecDepth 100000
set_option maxHeartbeats 32000000
set_option linter.unusedVariables false
set_option linter.unusedSimpArgs false
namespace Go.Proofs.YtoogfmbojlpjaaaGreat
open Go.ChangeShapes Go.WideShapes Go.ChangeAt Go.RowKit Go.Joins
theorem aLq {w:World} {v:Value} {l:List aC} (h:Rv w v l) (hr:bF l=true) (K:aJ) (all:Int) (h0:0<=all) (h1:all<=256) (o:aL) (ho:o.fits):
 Calls Tryz.prog 53 #[v,K.v,.int .i64 all,o.v] w (Ea w (wW l K all o)):=by
 obtain⟨k,pr,pg,cn,ri,ke,bR,dr,ad,sz,va,ta⟩:=o;obtain⟨t0,d0,t1,d1,t2,d2,t3,d3⟩:=K;unfold aL.fits eG at ho;simp only at ho;obtain⟨fk,fp,Py,fc,fri,fke,Xi,Sw,Xf,fva,fta⟩:=ho;simp only[aL.v,aJ.v];have jT:=hZ (λ(e:Int) (W:World)=>uY e W);have pJ:=hZ (λ(W:World)=>Gf ri W);have Dj:Hid ((w.alloc (.cells #[.bool t0,.int .i64 d0,.bool t1,.int .i64 d1,.bool t2,.int .i64 d2,.bool t3,.int .i64 d3] 40)).heap.size=w.heap.size+1):=hZ (by simp);have HE2:Hid (((w.alloc (.cells #[.bool t0,.int .i64 d0,.bool t1,.int .i64 d1,.bool t2,.int .i64 d2,.bool t3,.int .i64 d3] 40)).alloc (.cells #[.int .i64 k,.int .i64 pr,.int .i64 pg,.int .i64 cn,.int .i64 ri,.int .i64 ke,.bool bR,.int .i64 dr,.int .i64 ad,.int .i64 sz,.int .i64 va,.int .i64 ta] 26)).heap.size=w.heap.size+1+1):=hZ (by simp);have HW3:Hid (Below w.heap.size w (((w.alloc (.cells #[.bool t0,.int .i64 d0,.bool t1,.int .i64 d1,.bool t2,.int .i64 d2,.bool t3,.int .i64 d3] 40)).alloc (.cells #[.int .i64 k,.int .i64 pr,.int .i64 pg,.int .i64 cn,.int .i64 ri,.int .i64 ke,.bool bR,.int .i64 dr,.int .i64 ad,.int .i64 sz,.int .i64 va,.int .i64 ta] 26)).alloc (.cells #[.int .i64 0,.int .i64 0,.int .i64 0,.int .i64 0] 35))):=hZ ((((Below.refl _ _).alloc (nR _) _).alloc (by simp) _).alloc (by simp;omega) _);have wG:Hid (Bx (((w.alloc (.cells #[.bool t0,.int .i64 d0,.bool t1,.int .i64 d1,.bool t2,.int .i64 d2,.bool t3,.int .i64 d3] 40)).alloc (.cells #[.int .i64 k,.int .i64 pr,.int .i64 pg,.int .i64 cn,.int .i64 ri,.int .i64 ke,.bool bR,.int .i64 dr,.int .i64 ad,.int .i64 sz,.int .i64 va,.int .i64 ta] 26)).alloc (.cells #[.int .i64 0,.int .i64 0,.int .i64 0,.int .i64 0] 35)) (w.heap.size+1+1) 35 #[.int .i64 0,.int .i64 0,.int .i64 0,.int .i64 0]):=hZ (by rw[<-HE2.out];exact Bx.new _ _ _);have Ht:Hid (Bx (((w.alloc (.cells #[.bool t0,.int .i64 d0,.bool t1,.int .i64 d1,.bool t2,.int .i64 d2,.bool t3,.int .i64 d3] 40)).alloc (.cells #[.int .i64 k,.int .i64 pr,.int .i64 pg,.int .i64 cn,.int .i64 ri,.int .i64 ke,.bool bR,.int .i64 dr,.int .i64 ad,.int .i64 sz,.int .i64 va,.int .i64 ta] 26)).alloc (.cells #[.int .i64 0,.int .i64 0,.int .i64 0,.int .i64 0] 35)) (w.heap.size+1) 26 #[.int .i64 k,.int .i64 pr,.int .i64 pg,.int .i64 cn,.int .i64 ri,.int .i64 ke,.bool bR,.int .i64 dr,.int .i64 ad,.int .i64 sz,.int .i64 va,.int .i64 ta]):=hZ (by rw[<-Dj.out];exact(Bx.new _ _ _).below (aD _ _));have HS:Hid (wW l ⟨t0,d0,t1,d1,t2,d2,t3,d3⟩ all ⟨k,pr,pg,cn,ri,ke,bR,dr,ad,sz,va,ta⟩=if cn<1\/64<cn then(([],aB 2):List aC×bX)
  else if fH ri≠0 then([],aB (fH ri))
  else if(aJ.mk t0 d0 t1 d1 t2 d2 t3 d3).tk ke=false then([],aB 3)
  else if 64<all+cn then([],aB 4)
  else if vB l cn≠0 then([],aB (vB l cn))
  else(sS l ⟨nZ l cn dr,nZ l cn dr+cn,⟨ri,ke,bR,false⟩⟩,⟨rJ l ⟨nZ l cn dr,nZ l cn dr+cn,⟨ri,ke,bR,false⟩⟩,nZ l cn dr,0,0⟩)):=hZ rfl
 have HV:=hZ h;obtain⟨A,n,c,rfl,hz,hn⟩:=h;have Ch:=hZ (aFS A n c l cn dr (((w.alloc (.cells #[.bool t0,.int .i64 d0,.bool t1,.int .i64 d1,.bool t2,.int .i64 d2,.bool t3,.int .i64 d3] 40)).alloc (.cells #[.int .i64 k,.int .i64 pr,.int .i64 pg,.int .i64 cn,.int .i64 ri,.int .i64 ke,.bool bR,.int .i64 dr,.int .i64 ad,.int .i64 sz,.int .i64 va,.int .i64 ta] 26)).alloc (.cells #[.int .i64 0,.int .i64 0,.int .i64 0,.int .i64 0] 35)) w.heap.size (hz.below HW3.out) HW3.out.size (by omega) fc Xi);have HAD:=hZ (λ(W:World) (hb:Below w.heap.size w W)=>aL5 A n c l ⟨nZ l cn dr,nZ l cn dr+cn,⟨ri,ke,bR,false⟩⟩ W w.heap.size (hz.below hb) hb.size (by omega));have H5:=hZ (λ(h:vB l cn=0)=>(aLn.1 (aNz (d:=dr) h)));clear hz hr;generalize wW l ⟨t0,d0,t1,d1,t2,d2,t3,d3⟩ all ⟨k,pr,pg,cn,ri,ke,bR,dr,ad,sz,va,ta⟩=rs at*;by_cases c1:cn<1
 ·have aP:Hid (rs=([],aB 2)):=hZ (by rw[HS.out,if_pos (by omega)])
  have hd:decide (cn<1)=true:=decide_eq_true c1;clear HS Ch HAD H5;go_enter Tryz.func53,Tryz.ntmps53;go_wp2_with(first
   |(go_at_call 94;refine(pJ.out _).mono ?_;rintro e w' ⟨rfl,rfl⟩)
   |((with_reducible refine fM bN (w.heap.size+1+1) (nA (aB 2)) ?_ ?_ X9.out rfl rfl (bI _) ?_);rfl;rfl)
   |(go_at_call 52;refine(jT.out 2 _).mono ?_;rintro e w9 ⟨rfl,bC⟩;have X9:=hZ (wG.out.below bC);have K9:=hZ (HW3.out.trans (bC.mono HW3.out.size));clear bC))
  try simp only[Exit.inBlock,Exit.then]
  refine bodyPost_ret (v:=.tuple #[.slice none 0 0,(aB 2).v]) ?_ rfl ?_;rotate_left
  ·rw[aP.out];exact jX (r:=([],aB 2)) X9.out Os.nil K9.out (by omega) (λk h=>by cases h)
  ·rw[aT rfl];simp[asAddr,Result.andThen,Act.put,aV (X9.out.row _)]
 have hd1:decide (cn<1)=false:=decide_eq_false c1;by_cases c2:64<cn
 ·have aP:Hid (rs=([],aB 2)):=hZ (by rw[HS.out,if_pos (by omega)])
  have hd:decide (64<cn)=true:=decide_eq_true c2;clear HS Ch HAD H5;go_enter Tryz.func53,Tryz.ntmps53;go_wp2_with(first
   |(go_at_call 94;refine(pJ.out _).mono ?_;rintro e w' ⟨rfl,rfl⟩)
   |((with_reducible refine fM bN (w.heap.size+1+1) (nA (aB 2)) ?_ ?_ X9.out rfl rfl (bI _) ?_);rfl;rfl)
   |(go_at_call 52;refine(jT.out 2 _).mono ?_;rintro e w9 ⟨rfl,bC⟩;have X9:=hZ (wG.out.below bC);have K9:=hZ (HW3.out.trans (bC.mono HW3.out.size));clear bC))
  try simp only[Exit.inBlock,Exit.then]
  refine bodyPost_ret (v:=.tuple #[.slice none 0 0,(aB 2).v]) ?_ rfl ?_;rotate_left
  ·rw[aP.out];exact jX (r:=([],aB 2)) X9.out Os.nil K9.out (by omega) (λk h=>by cases h)
  ·rw[aT rfl];simp[asAddr,Result.andThen,Act.put,aV (X9.out.row _)]
 have hd2:decide (64<cn)=false:=decide_eq_false c2;obtain⟨er,her⟩:∃e,e=fH ri:=⟨_,rfl⟩;rw[<-her] at HS pJ;clear her;by_cases c3:er=0
 ·subst c3
  by_cases c4:ke<0
  ·have aP:Hid (rs=([],aB 3)):=hZ (by rw[HS.out,if_neg (by omega),if_neg (by omega),if_pos (by unfold aJ.tk;rw[if_neg (by omega),if_neg (by omega),if_neg (by omega),if_neg (by omega)])])
   have hd:decide (ke<0)=true:=decide_eq_true c4;clear HS Ch HAD H5;go_enter Tryz.func53,Tryz.ntmps53;go_wp2_with(first
    |(go_at_call 94;refine(pJ.out _).mono ?_;rintro e w' ⟨rfl,rfl⟩)
    |((with_reducible refine fM bN (w.heap.size+1+1) (nA (aB 3)) ?_ ?_ X9.out rfl rfl (bI _) ?_);rfl;rfl)
    |(go_at_call 52;refine(jT.out 3 _).mono ?_;rintro e w9 ⟨rfl,bC⟩;have X9:=hZ (wG.out.below bC);have K9:=hZ (HW3.out.trans (bC.mono HW3.out.size));clear bC))
   try simp only[Exit.inBlock,Exit.then]
   refine bodyPost_ret (v:=.tuple #[.slice none 0 0,(aB 3).v]) ?_ rfl ?_;rotate_left
   ·rw[aP.out];exact jX (r:=([],aB 3)) X9.out Os.nil K9.out (by omega) (λk h=>by cases h)
   ·rw[aT rfl];simp[asAddr,Result.andThen,Act.put,aV (X9.out.row _)]
  by_cases c5:4<=ke
  ·have aP:Hid (rs=([],aB 3)):=hZ (by rw[HS.out,if_neg (by omega),if_neg (by omega),if_pos (by unfold aJ.tk;rw[if_neg (by omega),if_neg (by omega),if_neg (by omega),if_neg (by omega)])])
   have hd:decide (4<=ke)=true:=decide_eq_true c5;have hd0:decide (ke<0)=false:=decide_eq_false c4;clear HS Ch HAD H5;go_enter Tryz.func53,Tryz.ntmps53;go_wp2_with(first
    |(go_at_call 94;refine(pJ.out _).mono ?_;rintro e w' ⟨rfl,rfl⟩)
    |((with_reducible refine fM bN (w.heap.size+1+1) (nA (aB 3)) ?_ ?_ X9.out rfl rfl (bI _) ?_);rfl;rfl)
    |(go_at_call 52;refine(jT.out 3 _).mono ?_;rintro e w9 ⟨rfl,bC⟩;have X9:=hZ (wG.out.below bC);have K9:=hZ (HW3.out.trans (bC.mono HW3.out.size));clear bC))
   try simp only[Exit.inBlock,Exit.then]
   refine bodyPost_ret (v:=.tuple #[.slice none 0 0,(aB 3).v]) ?_ rfl ?_;rotate_left
   ·rw[aP.out];exact jX (r:=([],aB 3)) X9.out Os.nil K9.out (by omega) (λk h=>by cases h)
   ·rw[aT rfl];simp[asAddr,Result.andThen,Act.put,aV (X9.out.row _)]
  have hke:ke=0\/ke=1\/ke=2\/ke=3:=by omega
  clear c4 c5;cases ht:(aJ.mk t0 d0 t1 d1 t2 d2 t3 d3).tk ke with
  |false=>
   have aP:Hid (rs=([],aB 3)):=hZ (by rw[HS.out,if_neg (by omega),if_neg (by omega),if_pos ht]);clear HS Ch HAD H5;rcases hke with rfl|rfl|rfl|rfl
   all_goals
    simp[aJ.tk] at ht;subst ht;go_enter Tryz.func53,Tryz.ntmps53;go_wp2_with(first
     |(go_at_call 94;refine(pJ.out _).mono ?_;rintro e w' ⟨rfl,rfl⟩)
     |((with_reducible refine fM bN (w.heap.size+1+1) (nA (aB 3)) ?_ ?_ X9.out rfl rfl (bI _) ?_);rfl;rfl)
     |(go_at_call 52;refine(jT.out 3 _).mono ?_;rintro e w9 ⟨rfl,bC⟩;have X9:=hZ (wG.out.below bC);have K9:=hZ (HW3.out.trans (bC.mono HW3.out.size));clear bC))
    try simp only[Exit.inBlock,Exit.then]
    refine bodyPost_ret (v:=.tuple #[.slice none 0 0,(aB 3).v]) ?_ rfl ?_;rotate_left
    ·rw[aP.out];exact jX (r:=([],aB 3)) X9.out Os.nil K9.out (by omega) (λk h=>by cases h)
    ·rw[aT rfl];simp[asAddr,Result.andThen,Act.put,aV (X9.out.row _)]
  |true=>
   have HS2:Hid (rs=if 64<all+cn then(([],aB 4):List aC×bX)
    else if vB l cn≠0 then([],aB (vB l cn))
    else(sS l ⟨nZ l cn dr,nZ l cn dr+cn,⟨ri,ke,bR,false⟩⟩,⟨rJ l ⟨nZ l cn dr,nZ l cn dr+cn,⟨ri,ke,bR,false⟩⟩,nZ l cn dr,0,0⟩)):=hZ (by rw[HS.out,if_neg (by omega),if_neg (by omega),if_neg (by rw[ht];exact Bool.noConfusion)])
   clear HS;by_cases c6:64<all+cn
   ·have aP:Hid (rs=([],aB 4)):=hZ (by rw[HS2.out,if_pos c6])
    have hd6:decide (64<all+cn)=true:=decide_eq_true c6;clear HS2 Ch HAD H5;rcases hke with rfl|rfl|rfl|rfl
    all_goals
     simp[aJ.tk] at ht;subst ht;go_enter Tryz.func53,Tryz.ntmps53;go_wp2_with(first
      |(go_at_call 94;refine(pJ.out _).mono ?_;rintro e w' ⟨rfl,rfl⟩)
      |((with_reducible refine fM bN (w.heap.size+1+1) (nA (aB 4)) ?_ ?_ X9.out rfl rfl (bI _) ?_);rfl;rfl)
      |(go_at_call 52;refine(jT.out 4 _).mono ?_;rintro e w9 ⟨rfl,bC⟩;have X9:=hZ (wG.out.below bC);have K9:=hZ (HW3.out.trans (bC.mono HW3.out.size));clear bC))
     try simp only[Exit.inBlock,Exit.then]
     refine bodyPost_ret (v:=.tuple #[.slice none 0 0,(aB 4).v]) ?_ rfl ?_;rotate_left
     ·rw[aP.out];exact jX (r:=([],aB 4)) X9.out Os.nil K9.out (by omega) (λk h=>by cases h)
     ·rw[aT rfl];simp[asAddr,Result.andThen,Act.put,aV (X9.out.row _)]
   have hd6:decide (64<all+cn)=false:=decide_eq_false c6;obtain⟨ce,hce⟩:∃e,e=vB l cn:=⟨_,rfl⟩;obtain⟨cp,hcp⟩:∃e,e=nZ l cn dr:=⟨_,rfl⟩;rw[<-hce] at HS2 Ch H5;rw[<-hcp] at HS2 Ch HAD H5;clear hce hcp;unfold Two at Ch;obtain⟨kv,Xb⟩:∃kv,kv=ke:=⟨_,rfl⟩;by_cases c7:ce=0
   ·subst c7
    obtain⟨_,_,p0,p1,_⟩:=H5.out rfl;have aP:Hid (rs=(sS l ⟨cp,cp+cn,⟨ri,ke,bR,false⟩⟩,⟨rJ l ⟨cp,cp+cn,⟨ri,ke,bR,false⟩⟩,cp,0,0⟩)):=hZ (by rw[HS2.out,if_neg c6,if_neg (by omega)]);unfold TR at HAD;simp only at HAD;obtain⟨al,hal⟩:∃e,e=sS l ⟨cp,cp+cn,⟨ri,ke,bR,false⟩⟩:=⟨_,rfl⟩;obtain⟨ae,hae⟩:∃e,e=rJ l ⟨cp,cp+cn,⟨ri,ke,bR,false⟩⟩:=⟨_,rfl⟩;rw[<-hal,<-hae] at aP HAD;clear HS2 H5 hal hae;rcases hke with rfl|rfl|rfl|rfl
    all_goals
     simp[aJ.tk] at ht;subst ht;go_enter Tryz.func53,Tryz.ntmps53;go_wp2_with(first
      |(go_at_call 94;refine(pJ.out _).mono ?_;rintro e w' ⟨rfl,rfl⟩)
      |(go_at_call 96
        refine(HAD.out w4 K4.out).mono ?_;rintro e w5 ⟨u5,rfl,ho5,hb5⟩;have X5:=hZ (X4.out.below hb5);have K5:=hZ (K4.out.trans (hb5.mono K4.out.size));have U5:=hZ (ho5.gD K4.out.size);have N5:Hid (∀k,u5.ownBlock=some k->k≠w.heap.size+1+1):=hZ (λk hk=>by have:=(ho5.jE k hk).2;omega);clear hb5 ho5)
      |(go_at_call 95
        refine Ch.out.mono ?_;rintro e w4 ⟨rfl,hb4⟩;have X4:=hZ (wG.out.below hb4);have K4:=hZ (HW3.out.trans (hb4.mono HW3.out.size));have O4:=hZ (Ht.out.below hb4);have Cw:w.heap.size+1+1<w4.heap.size:=X4.out.lt;have o3:w4.cell? ⟨w.heap.size+1,3,none⟩=some (.int .i64 cn):=by rw[O4.out.cell];rfl
        have o4:w4.cell? ⟨w.heap.size+1,4,none⟩=some (.int .i64 ri):=by rw[O4.out.cell];rfl
        have o5:w4.cell? ⟨w.heap.size+1,5,none⟩=some (.int .i64 kv):=by rw[O4.out.cell,Xb];rfl
        rw[Xb] at o5;have o6:w4.cell? ⟨w.heap.size+1,6,none⟩=some (.bool bR):=by rw[O4.out.cell];rfl
        clear hb4)
      |((with_reducible refine fM bN (w.heap.size+1+1) (nA ⟨ae,cp,0,0⟩) ?_ ?_ X5.out rfl rfl (bI _) ?_);rfl;rfl))
     try simp only[Exit.inBlock,Exit.then]
     refine bodyPost_ret (v:=.tuple #[u5,(bX.mk ae cp 0 0).v]) ?_ rfl ?_;rotate_left
     ·rw[aP.out];exact jX (r:=(al,bX.mk ae cp 0 0)) X5.out U5.out K5.out (by omega) N5.out
     ·rw[aT rfl];simp[asAddr,Result.andThen,Act.put,aV (X5.out.row _)]
   ·have aP:Hid (rs=([],aB ce)):=hZ (by rw[HS2.out,if_neg c6,if_pos c7])
    have hne:(ce !=0)=true:=by rw[bne_iff_ne];exact c7
    clear HS2 HAD H5;rcases hke with rfl|rfl|rfl|rfl
    all_goals
     simp[aJ.tk] at ht;subst ht;go_enter Tryz.func53,Tryz.ntmps53;go_wp2_with(first
      |(go_at_call 94;refine(pJ.out _).mono ?_;rintro e w' ⟨rfl,rfl⟩)
      |((with_reducible refine fM bN (w.heap.size+1+1) (nA (aB ce)) ?_ ?_ X9.out rfl rfl (bI _) ?_);rfl;rfl)
      |(go_at_call 95
        refine Ch.out.mono ?_;rintro e w4 ⟨rfl,hb4⟩;have X4:=hZ (wG.out.below hb4);have K4:=hZ (HW3.out.trans (hb4.mono HW3.out.size));have O4:=hZ (Ht.out.below hb4);have Cw:w.heap.size+1+1<w4.heap.size:=X4.out.lt;have o3:w4.cell? ⟨w.heap.size+1,3,none⟩=some (.int .i64 cn):=by rw[O4.out.cell];rfl
        have o4:w4.cell? ⟨w.heap.size+1,4,none⟩=some (.int .i64 ri):=by rw[O4.out.cell];rfl
        have o5:w4.cell? ⟨w.heap.size+1,5,none⟩=some (.int .i64 kv):=by rw[O4.out.cell,Xb];rfl
        rw[Xb] at o5;have o6:w4.cell? ⟨w.heap.size+1,6,none⟩=some (.bool bR):=by rw[O4.out.cell];rfl
        clear hb4)
      |(go_at_call 52;refine(jT.out ce _).mono ?_;rintro e w9 ⟨rfl,bC⟩;have X9:=hZ (X4.out.below bC);have K9:=hZ (K4.out.trans (bC.mono K4.out.size));clear bC))
     try simp only[Exit.inBlock,Exit.then]
     refine bodyPost_ret (v:=.tuple #[.slice none 0 0,(aB ce).v]) ?_ rfl ?_;rotate_left
     ·rw[aP.out];exact jX (r:=([],aB ce)) X9.out Os.nil K9.out (by omega) (λk h=>by cases h)
     ·rw[aT rfl];simp[asAddr,Result.andThen,Act.put,aV (X9.out.row _)]
 ·have aP:Hid (rs=([],aB er)):=hZ (by rw[HS.out,if_neg (by omega),if_pos c3])
  have hne:(er !=0)=true:=by rw[bne_iff_ne];exact c3
  clear HS Ch HAD H5;go_enter Tryz.func53,Tryz.ntmps53;go_wp2_with(first
   |(go_at_call 94;refine(pJ.out _).mono ?_;rintro e w' ⟨rfl,rfl⟩)
   |((with_reducible refine fM bN (w.heap.size+1+1) (nA (aB er)) ?_ ?_ X9.out rfl rfl (bI _) ?_);rfl;rfl)
   |(go_at_call 52;refine(jT.out er _).mono ?_;rintro e w9 ⟨rfl,bC⟩;have X9:=hZ (wG.out.below bC);have K9:=hZ (HW3.out.trans (bC.mono HW3.out.size));clear bC))
  try simp only[Exit.inBlock,Exit.then]
  refine bodyPost_ret (v:=.tuple #[.slice none 0 0,(aB er).v]) ?_ rfl ?_;rotate_left
  ·rw[aP.out];exact jX (r:=([],aB er)) X9.out Os.nil K9.out (by omega) (λk h=>by cases h)
  ·rw[aT rfl];simp[asAddr,Result.andThen,Act.put,aV (X9.out.row _)]
theorem Kc:aF9 99 (λa=>a.s):=by
 intro W x;go_enter Tryz.func99,Tryz.ntmps99;go_wp2;go_ret;exact⟨bH rfl,(Below.refl _ _).alloc (nR _) _⟩
theorem aMj {w:World} {v:Value} {l:List aC} (h:Rv w v l) (K:aJ) (o:aL) (ho:o.fits) (hkd:o.kind=2):
 Calls Tryz.prog 55 #[v,K.v,o.v] w (Ea w (iK l K o)):=by
 obtain⟨k,pr,pg,cn,ri,ke,bR,dr,ad,sz,va,ta⟩:=o;obtain⟨t0,d0,t1,d1,t2,d2,t3,d3⟩:=K;simp only at hkd;subst hkd;unfold aL.fits eG at ho;simp only at ho;obtain⟨fk,fp,Py,fc,fri,fke,Xi,Sw,Xf,fva,fta⟩:=ho;simp only[aL.v,aJ.v];have jT:=hZ (λ(e:Int) (W:World)=>uY e W);have pJ:=hZ (λ(W:World)=>Gf ri W);have uI:=hZ (λ(W:World)=>Oc pg cn Py fc W);have Dj:Hid ((w.alloc (.cells #[.bool t0,.int .i64 d0,.bool t1,.int .i64 d1,.bool t2,.int .i64 d2,.bool t3,.int .i64 d3] 40)).heap.size=w.heap.size+1):=hZ (by simp);have HE2:Hid (((w.alloc (.cells #[.bool t0,.int .i64 d0,.bool t1,.int .i64 d1,.bool t2,.int .i64 d2,.bool t3,.int .i64 d3] 40)).alloc (.cells #[.int .i64 2,.int .i64 pr,.int .i64 pg,.int .i64 cn,.int .i64 ri,.int .i64 ke,.bool bR,.int .i64 dr,.int .i64 ad,.int .i64 sz,.int .i64 va,.int .i64 ta] 26)).heap.size=w.heap.size+1+1):=hZ (by simp);have HW3:Hid (Below w.heap.size w (((w.alloc (.cells #[.bool t0,.int .i64 d0,.bool t1,.int .i64 d1,.bool t2,.int .i64 d2,.bool t3,.int .i64 d3] 40)).alloc (.cells #[.int .i64 2,.int .i64 pr,.int .i64 pg,.int .i64 cn,.int .i64 ri,.int .i64 ke,.bool bR,.int .i64 dr,.int .i64 ad,.int .i64 sz,.int .i64 va,.int .i64 ta] 26)).alloc (.cells #[.int .i64 0,.int .i64 0,.int .i64 0,.int .i64 0] 35))):=hZ ((((Below.refl _ _).alloc (nR _) _).alloc (by simp) _).alloc (by simp;omega) _);have wG:Hid (Bx (((w.alloc (.cells #[.bool t0,.int .i64 d0,.bool t1,.int .i64 d1,.bool t2,.int .i64 d2,.bool t3,.int .i64 d3] 40)).alloc (.cells #[.int .i64 2,.int .i64 pr,.int .i64 pg,.int .i64 cn,.int .i64 ri,.int .i64 ke,.bool bR,.int .i64 dr,.int .i64 ad,.int .i64 sz,.int .i64 va,.int .i64 ta] 26)).alloc (.cells #[.int .i64 0,.int .i64 0,.int .i64 0,.int .i64 0] 35)) (w.heap.size+1+1) 35 #[.int .i64 0,.int .i64 0,.int .i64 0,.int .i64 0]):=hZ (by rw[<-HE2.out];exact Bx.new _ _ _);have Ht:Hid (Bx (((w.alloc (.cells #[.bool t0,.int .i64 d0,.bool t1,.int .i64 d1,.bool t2,.int .i64 d2,.bool t3,.int .i64 d3] 40)).alloc (.cells #[.int .i64 2,.int .i64 pr,.int .i64 pg,.int .i64 cn,.int .i64 ri,.int .i64 ke,.bool bR,.int .i64 dr,.int .i64 ad,.int .i64 sz,.int .i64 va,.int .i64 ta] 26)).alloc (.cells #[.int .i64 0,.int .i64 0,.int .i64 0,.int .i64 0] 35)) (w.heap.size+1) 26 #[.int .i64 2,.int .i64 pr,.int .i64 pg,.int .i64 cn,.int .i64 ri,.int .i64 ke,.bool bR,.int .i64 dr,.int .i64 ad,.int .i64 sz,.int .i64 va,.int .i64 ta]):=hZ (by rw[<-Dj.out];exact(Bx.new _ _ _).below (aD _ _));have HD3:Hid (∀m,Below w.heap.size w ((((w.alloc (.cells #[.bool t0,.int .i64 d0,.bool t1,.int .i64 d1,.bool t2,.int .i64 d2,.bool t3,.int .i64 d3] 40)).alloc (.cells #[.int .i64 2,.int .i64 pr,.int .i64 pg,.int .i64 cn,.int .i64 ri,.int .i64 ke,.bool bR,.int .i64 dr,.int .i64 ad,.int .i64 sz,.int .i64 va,.int .i64 ta] 26)).alloc (.cells #[.int .i64 0,.int .i64 0,.int .i64 0,.int .i64 0] 35)).drewN m)):=hZ (λm=>HW3.out.trans (below_drewN _ _ _));have uG:Hid (∀m,Bx ((((w.alloc (.cells #[.bool t0,.int .i64 d0,.bool t1,.int .i64 d1,.bool t2,.int .i64 d2,.bool t3,.int .i64 d3] 40)).alloc (.cells #[.int .i64 2,.int .i64 pr,.int .i64 pg,.int .i64 cn,.int .i64 ri,.int .i64 ke,.bool bR,.int .i64 dr,.int .i64 ad,.int .i64 sz,.int .i64 va,.int .i64 ta] 26)).alloc (.cells #[.int .i64 0,.int .i64 0,.int .i64 0,.int .i64 0] 35)).drewN m) (w.heap.size+1+1) 35 #[.int .i64 0,.int .i64 0,.int .i64 0,.int .i64 0]):=hZ (λm=>wG.out.below (below_drewN _ _ _));have Qm:Hid (∀m,Bx ((((w.alloc (.cells #[.bool t0,.int .i64 d0,.bool t1,.int .i64 d1,.bool t2,.int .i64 d2,.bool t3,.int .i64 d3] 40)).alloc (.cells #[.int .i64 2,.int .i64 pr,.int .i64 pg,.int .i64 cn,.int .i64 ri,.int .i64 ke,.bool bR,.int .i64 dr,.int .i64 ad,.int .i64 sz,.int .i64 va,.int .i64 ta] 26)).alloc (.cells #[.int .i64 0,.int .i64 0,.int .i64 0,.int .i64 0] 35)).drewN m) (w.heap.size+1) 26 #[.int .i64 2,.int .i64 pr,.int .i64 pg,.int .i64 cn,.int .i64 ri,.int .i64 ke,.bool bR,.int .i64 dr,.int .i64 ad,.int .i64 sz,.int .i64 va,.int .i64 ta]):=hZ (λm=>Ht.out.below (below_drewN _ _ _));obtain⟨A,n,c,rfl,hz,hn⟩:=h;have qF:=hZ (λ(W:World) (hb:Below w.heap.size w W)=>(show Calls Tryz.prog 98 #[.slice A n c,.int .i64 pg,.int .i64 (pg+cn)] W (TR (dY l pg (pg+cn) vI) (dP l pg (pg+cn)) W) from Vb A n c l pg (pg+cn) W w.heap.size (hz.below hb) hb.size (by omega)));have lS:=hZ (λ(W:World) (hb:Below w.heap.size w W)=>Kb _ (enters_of Tryz.func99 (by kernel_rfl) rfl) _ Kc A n c l pg (pg+cn) W w.heap.size (hz.below hb) hb.size (by omega));have Hz:=hZ (λ(W:World) (hb:Below w.heap.size w W)=>Uh A n c l pg (pg+cn) W w.heap.size (hz.below hb) hb.size (by omega));have Cg:=hZ (λ(W:World) (hb:Below w.heap.size w W)=>(show Calls Tryz.prog 101 #[.slice A n c,.int .i64 pg,.int .i64 (pg+cn),.int .i64 ri,.int .i64 ke] W (TR (dY l pg (pg+cn) (q9 ri ke)) (dP l pg (pg+cn)) W) from Q0 A n c l pg (pg+cn) ri ke W w.heap.size (hz.below hb) hb.size (by omega)));have HS:=hZ (show iK l ⟨t0,d0,t1,d1,t2,d2,t3,d3⟩ ⟨2,pr,pg,cn,ri,ke,bR,dr,ad,sz,va,ta⟩=(if pY pg cn=false then(([],aB 2):List aC×bX)
  else if(if(2:Int)=3 then(if fH ri≠0 then fH ri else if(aJ.mk t0 d0 t1 d1 t2 d2 t3 d3).tk ke=false then 3 else 0) else 0)≠0 then([],aB (if(2:Int)=3 then(if fH ri≠0 then fH ri else if(aJ.mk t0 d0 t1 d1 t2 d2 t3 d3).tk ke=false then 3 else 0) else 0))
  else if dP l pg (pg+cn)≠0/\(2:Int)≠2 then([],aB 1)
  else if(2:Int)=4 then(dY l pg (pg+cn) vI,aB 0)
  else if((fA pg (pg+cn) l).any λx=>x.a.s)=true then([],aB 7)
  else if(2:Int)=2 then(sP l pg (pg+cn),aB (nV l pg (pg+cn)))
  else(dY l pg (pg+cn) (q9 ri ke),aB (dP l pg (pg+cn)))) from rfl)
 clear hz;generalize iK l ⟨t0,d0,t1,d1,t2,d2,t3,d3⟩ ⟨2,pr,pg,cn,ri,ke,bR,dr,ad,sz,va,ta⟩=rs at*;have hsp2:pY pg cn=true->0<=pg/\1<=cn/\cn<=64/\pg<=64 -cn:=λh=>by unfold pY at h;simp at h;omega
 obtain⟨se,hse⟩:∃e,e=dP l pg (pg+cn):=⟨_,rfl⟩;obtain⟨sl,hsl⟩:∃e,e=dY l pg (pg+cn) vI:=⟨_,rfl⟩;obtain⟨gl,hgl⟩:∃e,e=dY l pg (pg+cn) (q9 ri ke):=⟨_,rfl⟩;obtain⟨sm,hsm⟩:∃e,e=((fA pg (pg+cn) l).any λx=>x.a.s):=⟨_,rfl⟩;obtain⟨cl,hcl⟩:∃e,e=sP l pg (pg+cn):=⟨_,rfl⟩;obtain⟨ce,hce⟩:∃e,e=nV l pg (pg+cn):=⟨_,rfl⟩;obtain⟨sp,hsp⟩:∃e,e=pY pg cn:=⟨_,rfl⟩;obtain⟨er,her⟩:∃e,e=fH ri:=⟨_,rfl⟩;rw[<-hse,<-hsl] at qF;rw[<-hse,<-hgl] at Cg;rw[<-hsm] at lS;rw[<-hcl,<-hce] at Hz;rw[<-hse,<-hsl,<-hgl,<-hsm,<-hcl,<-hce,<-hsp,<-her] at HS;rw[<-hsp] at uI hsp2;rw[<-her] at pJ;clear hse hsl hgl hsm hcl hce hsp her;cases sp with
 |false=>
  have aP:Hid (rs=([],aB 2)):=hZ (by rw[HS.out,if_pos rfl]);clear HS qF lS Hz Cg hsp2;go_enter Tryz.func55,Tryz.ntmps55;go_wp2_with(first
   |(go_at_call 97;refine(uI.out _).mono ?_;rintro e w' ⟨rfl,rfl⟩)
   |((with_reducible refine fM bN (w.heap.size+1+1) (nA (aB 2)) ?_ ?_ X9.out rfl rfl (bI _) ?_);rfl;rfl)
   |(go_at_call 52;refine(jT.out 2 _).mono ?_;rintro e w9 ⟨rfl,bC⟩;have X9:=hZ (wG.out.below bC);have K9:=hZ (HW3.out.trans (bC.mono HW3.out.size));clear bC))
  try simp only[Exit.inBlock,Exit.then]
  refine bodyPost_ret (v:=.tuple #[.slice none 0 0,((aB 2):bX).v]) ?_ rfl ?_;rotate_left
  ·rw[aP.out];exact jX (r:=([],(aB 2))) X9.out Os.nil K9.out (by omega) (λk h=>by cases h)
  ·rw[aT rfl];simp[asAddr,Result.andThen,Act.put,aV (X9.out.row _)]
 |true=>
  obtain⟨q0,q1,q2,q3⟩:=hsp2 rfl;clear hsp2;have HS2:Hid (rs=if sm=true then(([],aB 7):List aC×bX) else(cl,aB ce)):=hZ (by rw[HS.out,if_neg (by intro h;cases h),if_neg (by simp),if_neg (by simp),if_neg (by decide)];cases sm<;>simp);clear HS Cg;have hse:(se !=0)=decide (se≠0):=by by_cases e:se=0<;>simp[e]
  cases sm with
  |true=>
   have aP:Hid (rs=([],aB 7)):=hZ (by rw[HS2.out,if_pos rfl]);clear HS2 Hz;by_cases c1:se=0
   ·subst c1
    go_enter Tryz.func55,Tryz.ntmps55;go_wp2_with(first
     |(go_at_call 97;refine(uI.out _).mono ?_;rintro e w' ⟨rfl,rfl⟩))
    go_quiet (fail)
    go_wp2_with(first
     |(go_at_call 98
       refine(qF.out _ (HD3.out _)).mono ?_;rintro e w4 ⟨u4,rfl,jH,hb4⟩;have X4:=hZ ((uG.out _).below hb4);have K4:=hZ ((HD3.out _).trans (hb4.mono (HD3.out _).size));have U4:=hZ (jH.gD (HD3.out _).size);have N4:Hid (∀k,u4.ownBlock=some k->k≠w.heap.size+1+1):=hZ (λk hk=>Nat.ne_of_gt (Nat.lt_of_lt_of_le (uG.out _).lt (jH.jE k hk).2));have O4:=hZ ((Qm.out _).below hb4);have Cw:w.heap.size+1+1<w4.heap.size:=X4.out.lt;have o0:w4.cell? ⟨w.heap.size+1,0,none⟩=some (.int .i64 2):=by rw[O4.out.cell];rfl
       clear hb4 jH)
     |(go_at_call 75
       refine(lS.out w4 K4.out).mono ?_;rintro e w5 ⟨rfl,hb5⟩;have X5:=hZ (X4.out.below hb5);have K5:=hZ (K4.out.trans (hb5.mono K4.out.size));have O5:=hZ (O4.out.below hb5);have Sm:w.heap.size+1+1<w5.heap.size:=X5.out.lt;have p0:w5.cell? ⟨w.heap.size+1,0,none⟩=some (.int .i64 2):=by rw[O5.out.cell];rfl
       clear hb5)
     |((with_reducible refine fM bN (w.heap.size+1+1) (nA (aB 7)) ?_ ?_ X9.out rfl rfl (bI _) ?_);rfl;rfl)
     |(go_at_call 52;refine(jT.out 7 _).mono ?_;rintro e w9 ⟨rfl,bC⟩;have X9:=hZ (X5.out.below bC);have K9:=hZ (K5.out.trans (bC.mono K5.out.size));clear bC))
    try simp only[Exit.inBlock,Exit.then]
    refine bodyPost_ret (v:=.tuple #[.slice none 0 0,((aB 7):bX).v]) ?_ rfl ?_;rotate_left
    ·rw[aP.out];exact jX (r:=([],(aB 7))) X9.out Os.nil K9.out (by omega) (λk h=>by cases h)
    ·rw[aT rfl];simp[asAddr,Result.andThen,Act.put,aV (X9.out.row _)]
   ·have hne:(se !=0)=true:=by rw[bne_iff_ne];exact c1
    go_enter Tryz.func55,Tryz.ntmps55;go_wp2_with(first
     |(go_at_call 97;refine(uI.out _).mono ?_;rintro e w' ⟨rfl,rfl⟩))
    go_quiet (fail)
    go_wp2_with(first
     |(go_at_call 98
       refine(qF.out _ (HD3.out _)).mono ?_;rintro e w4 ⟨u4,rfl,jH,hb4⟩;have X4:=hZ ((uG.out _).below hb4);have K4:=hZ ((HD3.out _).trans (hb4.mono (HD3.out _).size));have U4:=hZ (jH.gD (HD3.out _).size);have N4:Hid (∀k,u4.ownBlock=some k->k≠w.heap.size+1+1):=hZ (λk hk=>Nat.ne_of_gt (Nat.lt_of_lt_of_le (uG.out _).lt (jH.jE k hk).2));have O4:=hZ ((Qm.out _).below hb4);have Cw:w.heap.size+1+1<w4.heap.size:=X4.out.lt;have o0:w4.cell? ⟨w.heap.size+1,0,none⟩=some (.int .i64 2):=by rw[O4.out.cell];rfl
       clear hb4 jH)
     |(go_at_call 75
       refine(lS.out w4 K4.out).mono ?_;rintro e w5 ⟨rfl,hb5⟩;have X5:=hZ (X4.out.below hb5);have K5:=hZ (K4.out.trans (hb5.mono K4.out.size));have O5:=hZ (O4.out.below hb5);have Sm:w.heap.size+1+1<w5.heap.size:=X5.out.lt;have p0:w5.cell? ⟨w.heap.size+1,0,none⟩=some (.int .i64 2):=by rw[O5.out.cell];rfl
       clear hb5)
     |((with_reducible refine fM bN (w.heap.size+1+1) (nA (aB 7)) ?_ ?_ X9.out rfl rfl (bI _) ?_);rfl;rfl)
     |(go_at_call 52;refine(jT.out 7 _).mono ?_;rintro e w9 ⟨rfl,bC⟩;have X9:=hZ (X5.out.below bC);have K9:=hZ (K5.out.trans (bC.mono K5.out.size));clear bC))
    try simp only[Exit.inBlock,Exit.then]
    refine bodyPost_ret (v:=.tuple #[.slice none 0 0,((aB 7):bX).v]) ?_ rfl ?_;rotate_left
    ·rw[aP.out];exact jX (r:=([],(aB 7))) X9.out Os.nil K9.out (by omega) (λk h=>by cases h)
    ·rw[aT rfl];simp[asAddr,Result.andThen,Act.put,aV (X9.out.row _)]
  |false=>
   have aP:Hid (rs=(cl,aB ce)):=hZ (by rw[HS2.out,if_neg (by intro h;cases h)]);clear HS2;by_cases c1:se=0
   ·subst c1
    go_enter Tryz.func55,Tryz.ntmps55;go_wp2_with(first
     |(go_at_call 97;refine(uI.out _).mono ?_;rintro e w' ⟨rfl,rfl⟩))
    go_quiet (fail)
    go_wp2_with(first
     |(go_at_call 98
       refine(qF.out _ (HD3.out _)).mono ?_;rintro e w4 ⟨u4,rfl,jH,hb4⟩;have X4:=hZ ((uG.out _).below hb4);have K4:=hZ ((HD3.out _).trans (hb4.mono (HD3.out _).size));have U4:=hZ (jH.gD (HD3.out _).size);have N4:Hid (∀k,u4.ownBlock=some k->k≠w.heap.size+1+1):=hZ (λk hk=>Nat.ne_of_gt (Nat.lt_of_lt_of_le (uG.out _).lt (jH.jE k hk).2));have O4:=hZ ((Qm.out _).below hb4);have Cw:w.heap.size+1+1<w4.heap.size:=X4.out.lt;have o0:w4.cell? ⟨w.heap.size+1,0,none⟩=some (.int .i64 2):=by rw[O4.out.cell];rfl
       clear hb4 jH)
     |(go_at_call 75
       refine(lS.out w4 K4.out).mono ?_;rintro e w5 ⟨rfl,hb5⟩;have X5:=hZ (X4.out.below hb5);have K5:=hZ (K4.out.trans (hb5.mono K4.out.size));have O5:=hZ (O4.out.below hb5);have Sm:w.heap.size+1+1<w5.heap.size:=X5.out.lt;have p0:w5.cell? ⟨w.heap.size+1,0,none⟩=some (.int .i64 2):=by rw[O5.out.cell];rfl
       clear hb5)
     |(go_at_call 100
       refine(Hz.out w5 K5.out).mono ?_;rintro e w6 ⟨u6,rfl,wC,hb6⟩;have X6:=hZ (X5.out.below hb6);have K6:=hZ (K5.out.trans (hb6.mono K5.out.size));have U6:=hZ (wC.gD K5.out.size);have N6:Hid (∀k,u6.ownBlock=some k->k≠w.heap.size+1+1):=hZ (λk hk=>by have:=(wC.jE k hk).2;omega);clear hb6 wC)
     |((with_reducible refine fM bN (w.heap.size+1+1) (nA (aB ce)) ?_ ?_ X9.out rfl rfl (bI _) ?_);rfl;rfl)
     |(go_at_call 52;refine(jT.out ce _).mono ?_;rintro e w9 ⟨rfl,bC⟩;have X9:=hZ (X6.out.below bC);have B9:=hZ bC;have K9:=hZ (K6.out.trans (bC.mono K6.out.size));clear bC))
    try simp only[Exit.inBlock,Exit.then]
    refine bodyPost_ret (v:=.tuple #[u6,((aB ce):bX).v]) ?_ rfl ?_;rotate_left
    ·rw[aP.out];exact jX (r:=(cl,(aB ce))) X9.out (U6.out.below B9.out (nR _)) K9.out (by omega) N6.out
    ·rw[aT rfl];simp[asAddr,Result.andThen,Act.put,aV (X9.out.row _)]
   ·have hne:(se !=0)=true:=by rw[bne_iff_ne];exact c1
    go_enter Tryz.func55,Tryz.ntmps55;go_wp2_with(first
     |(go_at_call 97;refine(uI.out _).mono ?_;rintro e w' ⟨rfl,rfl⟩))
    go_quiet (fail)
    go_wp2_with(first
     |(go_at_call 98
       refine(qF.out _ (HD3.out _)).mono ?_;rintro e w4 ⟨u4,rfl,jH,hb4⟩;have X4:=hZ ((uG.out _).below hb4);have K4:=hZ ((HD3.out _).trans (hb4.mono (HD3.out _).size));have U4:=hZ (jH.gD (HD3.out _).size);have N4:Hid (∀k,u4.ownBlock=some k->k≠w.heap.size+1+1):=hZ (λk hk=>Nat.ne_of_gt (Nat.lt_of_lt_of_le (uG.out _).lt (jH.jE k hk).2));have O4:=hZ ((Qm.out _).below hb4);have Cw:w.heap.size+1+1<w4.heap.size:=X4.out.lt;have o0:w4.cell? ⟨w.heap.size+1,0,none⟩=some (.int .i64 2):=by rw[O4.out.cell];rfl
       clear hb4 jH)
     |(go_at_call 75
       refine(lS.out w4 K4.out).mono ?_;rintro e w5 ⟨rfl,hb5⟩;have X5:=hZ (X4.out.below hb5);have K5:=hZ (K4.out.trans (hb5.mono K4.out.size));have O5:=hZ (O4.out.below hb5);have Sm:w.heap.size+1+1<w5.heap.size:=X5.out.lt;have p0:w5.cell? ⟨w.heap.size+1,0,none⟩=some (.int .i64 2):=by rw[O5.out.cell];rfl
       clear hb5)
     |(go_at_call 100
       refine(Hz.out w5 K5.out).mono ?_;rintro e w6 ⟨u6,rfl,wC,hb6⟩;have X6:=hZ (X5.out.below hb6);have K6:=hZ (K5.out.trans (hb6.mono K5.out.size));have U6:=hZ (wC.gD K5.out.size);have N6:Hid (∀k,u6.ownBlock=some k->k≠w.heap.size+1+1):=hZ (λk hk=>by have:=(wC.jE k hk).2;omega);clear hb6 wC)
     |((with_reducible refine fM bN (w.heap.size+1+1) (nA (aB ce)) ?_ ?_ X9.out rfl rfl (bI _) ?_);rfl;rfl)
     |(go_at_call 52;refine(jT.out ce _).mono ?_;rintro e w9 ⟨rfl,bC⟩;have X9:=hZ (X6.out.below bC);have B9:=hZ bC;have K9:=hZ (K6.out.trans (bC.mono K6.out.size));clear bC))
    try simp only[Exit.inBlock,Exit.then]
    refine bodyPost_ret (v:=.tuple #[u6,((aB ce):bX).v]) ?_ rfl ?_;rotate_left
    ·rw[aP.out];exact jX (r:=(cl,(aB ce))) X9.out (U6.out.below B9.out (nR _)) K9.out (by omega) N6.out
    ·rw[aT rfl];simp[asAddr,Result.andThen,Act.put,aV (X9.out.row _)]
theorem aMi {w:World} {v:Value} {l:List aC} (h:Rv w v l) (K:aJ) (o:aL) (ho:o.fits) (hkd:o.kind=3):
 Calls Tryz.prog 55 #[v,K.v,o.v] w (Ea w (iK l K o)):=by
 obtain⟨k,pr,pg,cn,ri,ke,bR,dr,ad,sz,va,ta⟩:=o;obtain⟨t0,d0,t1,d1,t2,d2,t3,d3⟩:=K;simp only at hkd;subst hkd;unfold aL.fits eG at ho;simp only at ho;obtain⟨fk,fp,Py,fc,fri,fke,Xi,Sw,Xf,fva,fta⟩:=ho;simp only[aL.v,aJ.v];have jT:=hZ (λ(e:Int) (W:World)=>uY e W);have pJ:=hZ (λ(W:World)=>Gf ri W);have uI:=hZ (λ(W:World)=>Oc pg cn Py fc W);have Dj:Hid ((w.alloc (.cells #[.bool t0,.int .i64 d0,.bool t1,.int .i64 d1,.bool t2,.int .i64 d2,.bool t3,.int .i64 d3] 40)).heap.size=w.heap.size+1):=hZ (by simp);have HE2:Hid (((w.alloc (.cells #[.bool t0,.int .i64 d0,.bool t1,.int .i64 d1,.bool t2,.int .i64 d2,.bool t3,.int .i64 d3] 40)).alloc (.cells #[.int .i64 3,.int .i64 pr,.int .i64 pg,.int .i64 cn,.int .i64 ri,.int .i64 ke,.bool bR,.int .i64 dr,.int .i64 ad,.int .i64 sz,.int .i64 va,.int .i64 ta] 26)).heap.size=w.heap.size+1+1):=hZ (by simp);have HW3:Hid (Below w.heap.size w (((w.alloc (.cells #[.bool t0,.int .i64 d0,.bool t1,.int .i64 d1,.bool t2,.int .i64 d2,.bool t3,.int .i64 d3] 40)).alloc (.cells #[.int .i64 3,.int .i64 pr,.int .i64 pg,.int .i64 cn,.int .i64 ri,.int .i64 ke,.bool bR,.int .i64 dr,.int .i64 ad,.int .i64 sz,.int .i64 va,.int .i64 ta] 26)).alloc (.cells #[.int .i64 0,.int .i64 0,.int .i64 0,.int .i64 0] 35))):=hZ ((((Below.refl _ _).alloc (nR _) _).alloc (by simp) _).alloc (by simp;omega) _);have wG:Hid (Bx (((w.alloc (.cells #[.bool t0,.int .i64 d0,.bool t1,.int .i64 d1,.bool t2,.int .i64 d2,.bool t3,.int .i64 d3] 40)).alloc (.cells #[.int .i64 3,.int .i64 pr,.int .i64 pg,.int .i64 cn,.int .i64 ri,.int .i64 ke,.bool bR,.int .i64 dr,.int .i64 ad,.int .i64 sz,.int .i64 va,.int .i64 ta] 26)).alloc (.cells #[.int .i64 0,.int .i64 0,.int .i64 0,.int .i64 0] 35)) (w.heap.size+1+1) 35 #[.int .i64 0,.int .i64 0,.int .i64 0,.int .i64 0]):=hZ (by rw[<-HE2.out];exact Bx.new _ _ _);have Ht:Hid (Bx (((w.alloc (.cells #[.bool t0,.int .i64 d0,.bool t1,.int .i64 d1,.bool t2,.int .i64 d2,.bool t3,.int .i64 d3] 40)).alloc (.cells #[.int .i64 3,.int .i64 pr,.int .i64 pg,.int .i64 cn,.int .i64 ri,.int .i64 ke,.bool bR,.int .i64 dr,.int .i64 ad,.int .i64 sz,.int .i64 va,.int .i64 ta] 26)).alloc (.cells #[.int .i64 0,.int .i64 0,.int .i64 0,.int .i64 0] 35)) (w.heap.size+1) 26 #[.int .i64 3,.int .i64 pr,.int .i64 pg,.int .i64 cn,.int .i64 ri,.int .i64 ke,.bool bR,.int .i64 dr,.int .i64 ad,.int .i64 sz,.int .i64 va,.int .i64 ta]):=hZ (by rw[<-Dj.out];exact(Bx.new _ _ _).below (aD _ _));have HD3:Hid (∀m,Below w.heap.size w ((((w.alloc (.cells #[.bool t0,.int .i64 d0,.bool t1,.int .i64 d1,.bool t2,.int .i64 d2,.bool t3,.int .i64 d3] 40)).alloc (.cells #[.int .i64 3,.int .i64 pr,.int .i64 pg,.int .i64 cn,.int .i64 ri,.int .i64 ke,.bool bR,.int .i64 dr,.int .i64 ad,.int .i64 sz,.int .i64 va,.int .i64 ta] 26)).alloc (.cells #[.int .i64 0,.int .i64 0,.int .i64 0,.int .i64 0] 35)).drewN m)):=hZ (λm=>HW3.out.trans (below_drewN _ _ _));have uG:Hid (∀m,Bx ((((w.alloc (.cells #[.bool t0,.int .i64 d0,.bool t1,.int .i64 d1,.bool t2,.int .i64 d2,.bool t3,.int .i64 d3] 40)).alloc (.cells #[.int .i64 3,.int .i64 pr,.int .i64 pg,.int .i64 cn,.int .i64 ri,.int .i64 ke,.bool bR,.int .i64 dr,.int .i64 ad,.int .i64 sz,.int .i64 va,.int .i64 ta] 26)).alloc (.cells #[.int .i64 0,.int .i64 0,.int .i64 0,.int .i64 0] 35)).drewN m) (w.heap.size+1+1) 35 #[.int .i64 0,.int .i64 0,.int .i64 0,.int .i64 0]):=hZ (λm=>wG.out.below (below_drewN _ _ _));have Qm:Hid (∀m,Bx ((((w.alloc (.cells #[.bool t0,.int .i64 d0,.bool t1,.int .i64 d1,.bool t2,.int .i64 d2,.bool t3,.int .i64 d3] 40)).alloc (.cells #[.int .i64 3,.int .i64 pr,.int .i64 pg,.int .i64 cn,.int .i64 ri,.int .i64 ke,.bool bR,.int .i64 dr,.int .i64 ad,.int .i64 sz,.int .i64 va,.int .i64 ta] 26)).alloc (.cells #[.int .i64 0,.int .i64 0,.int .i64 0,.int .i64 0] 35)).drewN m) (w.heap.size+1) 26 #[.int .i64 3,.int .i64 pr,.int .i64 pg,.int .i64 cn,.int .i64 ri,.int .i64 ke,.bool bR,.int .i64 dr,.int .i64 ad,.int .i64 sz,.int .i64 va,.int .i64 ta]):=hZ (λm=>Ht.out.below (below_drewN _ _ _));obtain⟨A,n,c,rfl,hz,hn⟩:=h;have qF:=hZ (λ(W:World) (hb:Below w.heap.size w W)=>(show Calls Tryz.prog 98 #[.slice A n c,.int .i64 pg,.int .i64 (pg+cn)] W (TR (dY l pg (pg+cn) vI) (dP l pg (pg+cn)) W) from Vb A n c l pg (pg+cn) W w.heap.size (hz.below hb) hb.size (by omega)));have lS:=hZ (λ(W:World) (hb:Below w.heap.size w W)=>Kb _ (enters_of Tryz.func99 (by kernel_rfl) rfl) _ Kc A n c l pg (pg+cn) W w.heap.size (hz.below hb) hb.size (by omega));have Hz:=hZ (λ(W:World) (hb:Below w.heap.size w W)=>Uh A n c l pg (pg+cn) W w.heap.size (hz.below hb) hb.size (by omega));have Cg:=hZ (λ(W:World) (hb:Below w.heap.size w W)=>(show Calls Tryz.prog 101 #[.slice A n c,.int .i64 pg,.int .i64 (pg+cn),.int .i64 ri,.int .i64 ke] W (TR (dY l pg (pg+cn) (q9 ri ke)) (dP l pg (pg+cn)) W) from Q0 A n c l pg (pg+cn) ri ke W w.heap.size (hz.below hb) hb.size (by omega)));have HS:=hZ (show iK l ⟨t0,d0,t1,d1,t2,d2,t3,d3⟩ ⟨3,pr,pg,cn,ri,ke,bR,dr,ad,sz,va,ta⟩=(if pY pg cn=false then(([],aB 2):List aC×bX)
  else if(if(3:Int)=3 then(if fH ri≠0 then fH ri else if(aJ.mk t0 d0 t1 d1 t2 d2 t3 d3).tk ke=false then 3 else 0) else 0)≠0 then([],aB (if(3:Int)=3 then(if fH ri≠0 then fH ri else if(aJ.mk t0 d0 t1 d1 t2 d2 t3 d3).tk ke=false then 3 else 0) else 0))
  else if dP l pg (pg+cn)≠0/\(3:Int)≠2 then([],aB 1)
  else if(3:Int)=4 then(dY l pg (pg+cn) vI,aB 0)
  else if((fA pg (pg+cn) l).any λx=>x.a.s)=true then([],aB 7)
  else if(3:Int)=2 then(sP l pg (pg+cn),aB (nV l pg (pg+cn)))
  else(dY l pg (pg+cn) (q9 ri ke),aB (dP l pg (pg+cn)))) from rfl)
 clear hz;generalize iK l ⟨t0,d0,t1,d1,t2,d2,t3,d3⟩ ⟨3,pr,pg,cn,ri,ke,bR,dr,ad,sz,va,ta⟩=rs at*;have hsp2:pY pg cn=true->0<=pg/\1<=cn/\cn<=64/\pg<=64 -cn:=λh=>by unfold pY at h;simp at h;omega
 obtain⟨se,hse⟩:∃e,e=dP l pg (pg+cn):=⟨_,rfl⟩;obtain⟨sl,hsl⟩:∃e,e=dY l pg (pg+cn) vI:=⟨_,rfl⟩;obtain⟨gl,hgl⟩:∃e,e=dY l pg (pg+cn) (q9 ri ke):=⟨_,rfl⟩;obtain⟨sm,hsm⟩:∃e,e=((fA pg (pg+cn) l).any λx=>x.a.s):=⟨_,rfl⟩;obtain⟨cl,hcl⟩:∃e,e=sP l pg (pg+cn):=⟨_,rfl⟩;obtain⟨ce,hce⟩:∃e,e=nV l pg (pg+cn):=⟨_,rfl⟩;obtain⟨sp,hsp⟩:∃e,e=pY pg cn:=⟨_,rfl⟩;obtain⟨er,her⟩:∃e,e=fH ri:=⟨_,rfl⟩;rw[<-hse,<-hsl] at qF;rw[<-hse,<-hgl] at Cg;rw[<-hsm] at lS;rw[<-hcl,<-hce] at Hz;rw[<-hse,<-hsl,<-hgl,<-hsm,<-hcl,<-hce,<-hsp,<-her] at HS;rw[<-hsp] at uI hsp2;rw[<-her] at pJ;clear hse hsl hgl hsm hcl hce hsp her;cases sp with
 |false=>
  have aP:Hid (rs=([],aB 2)):=hZ (by rw[HS.out,if_pos rfl]);clear HS qF lS Hz Cg hsp2;go_enter Tryz.func55,Tryz.ntmps55;go_wp2_with(first
   |(go_at_call 97;refine(uI.out _).mono ?_;rintro e w' ⟨rfl,rfl⟩)
   |((with_reducible refine fM bN (w.heap.size+1+1) (nA (aB 2)) ?_ ?_ X9.out rfl rfl (bI _) ?_);rfl;rfl)
   |(go_at_call 52;refine(jT.out 2 _).mono ?_;rintro e w9 ⟨rfl,bC⟩;have X9:=hZ (wG.out.below bC);have K9:=hZ (HW3.out.trans (bC.mono HW3.out.size));clear bC))
  try simp only[Exit.inBlock,Exit.then]
  refine bodyPost_ret (v:=.tuple #[.slice none 0 0,((aB 2):bX).v]) ?_ rfl ?_;rotate_left
  ·rw[aP.out];exact jX (r:=([],(aB 2))) X9.out Os.nil K9.out (by omega) (λk h=>by cases h)
  ·rw[aT rfl];simp[asAddr,Result.andThen,Act.put,aV (X9.out.row _)]
 |true=>
  obtain⟨q0,q1,q2,q3⟩:=hsp2 rfl;clear hsp2;by_cases c3:er=0
  ·subst c3
   have uJ:=hZ (show rs=(if(aJ.mk t0 d0 t1 d1 t2 d2 t3 d3).tk ke=false then([],aB 3) else if se≠0 then(([],aB 1):List aC×bX) else if sm=true then([],aB 7) else(gl,aB se)) from by
    rw[HS.out,if_neg (by intro h;cases h)];cases(aJ.mk t0 d0 t1 d1 t2 d2 t3 d3).tk ke<;>by_cases e:se=0<;>simp[e])
   clear HS Hz;by_cases c4:ke<0
   ·have aP:Hid (rs=([],aB 3)):=hZ (by rw[uJ.out,if_pos (by unfold aJ.tk;rw[if_neg (by omega),if_neg (by omega),if_neg (by omega),if_neg (by omega)])])
    have hd:decide (ke<0)=true:=decide_eq_true c4;clear uJ qF lS Cg;go_enter Tryz.func55,Tryz.ntmps55;go_wp2_with(first
     |(go_at_call 97;refine(uI.out _).mono ?_;rintro e w' ⟨rfl,rfl⟩))
    go_quiet (fail)
    go_wp2_with(first
     |(go_at_call 94;refine(pJ.out _).mono ?_;rintro e w' ⟨rfl,rfl⟩)
     |((with_reducible refine fM bN (w.heap.size+1+1) (nA (aB 3)) ?_ ?_ X9.out rfl rfl (bI _) ?_);rfl;rfl)
     |(go_at_call 52;refine(jT.out 3 _).mono ?_;rintro e w9 ⟨rfl,bC⟩;have X9:=hZ ((uG.out _).below bC);have K9:=hZ ((HD3.out _).trans (bC.mono (HD3.out _).size));clear bC))
    try simp only[Exit.inBlock,Exit.then]
    refine bodyPost_ret (v:=.tuple #[.slice none 0 0,((aB 3):bX).v]) ?_ rfl ?_;rotate_left
    ·rw[aP.out];exact jX (r:=([],(aB 3))) X9.out Os.nil K9.out (by omega) (λk h=>by cases h)
    ·rw[aT rfl];simp[asAddr,Result.andThen,Act.put,aV (X9.out.row _)]
   by_cases c5:4<=ke
   ·have aP:Hid (rs=([],aB 3)):=hZ (by rw[uJ.out,if_pos (by unfold aJ.tk;rw[if_neg (by omega),if_neg (by omega),if_neg (by omega),if_neg (by omega)])])
    have hd:decide (4<=ke)=true:=decide_eq_true c5;have hd0:decide (ke<0)=false:=decide_eq_false c4;clear uJ qF lS Cg;go_enter Tryz.func55,Tryz.ntmps55;go_wp2_with(first
     |(go_at_call 97;refine(uI.out _).mono ?_;rintro e w' ⟨rfl,rfl⟩))
    go_quiet (fail)
    go_wp2_with(first
     |(go_at_call 94;refine(pJ.out _).mono ?_;rintro e w' ⟨rfl,rfl⟩)
     |((with_reducible refine fM bN (w.heap.size+1+1) (nA (aB 3)) ?_ ?_ X9.out rfl rfl (bI _) ?_);rfl;rfl)
     |(go_at_call 52;refine(jT.out 3 _).mono ?_;rintro e w9 ⟨rfl,bC⟩;have X9:=hZ ((uG.out _).below bC);have K9:=hZ ((HD3.out _).trans (bC.mono (HD3.out _).size));clear bC))
    try simp only[Exit.inBlock,Exit.then]
    refine bodyPost_ret (v:=.tuple #[.slice none 0 0,((aB 3):bX).v]) ?_ rfl ?_;rotate_left
    ·rw[aP.out];exact jX (r:=([],(aB 3))) X9.out Os.nil K9.out (by omega) (λk h=>by cases h)
    ·rw[aT rfl];simp[asAddr,Result.andThen,Act.put,aV (X9.out.row _)]
   have hke:ke=0\/ke=1\/ke=2\/ke=3:=by omega
   clear c4 c5;obtain⟨kv,Xb⟩:∃kv,kv=ke:=⟨_,rfl⟩;cases ht:(aJ.mk t0 d0 t1 d1 t2 d2 t3 d3).tk ke with
   |false=>
    have aP:Hid (rs=([],aB 3)):=hZ (by rw[uJ.out,if_pos ht]);clear uJ qF lS Cg;rcases hke with rfl|rfl|rfl|rfl
    all_goals
     simp[aJ.tk] at ht;subst ht;go_enter Tryz.func55,Tryz.ntmps55;go_wp2_with(first
      |(go_at_call 97;refine(uI.out _).mono ?_;rintro e w' ⟨rfl,rfl⟩))
     go_quiet (fail)
     go_wp2_with(first
      |(go_at_call 94;refine(pJ.out _).mono ?_;rintro e w' ⟨rfl,rfl⟩)
      |((with_reducible refine fM bN (w.heap.size+1+1) (nA (aB 3)) ?_ ?_ X9.out rfl rfl (bI _) ?_);rfl;rfl)
      |(go_at_call 52;refine(jT.out 3 _).mono ?_;rintro e w9 ⟨rfl,bC⟩;have X9:=hZ ((uG.out _).below bC);have K9:=hZ ((HD3.out _).trans (bC.mono (HD3.out _).size));clear bC))
     try simp only[Exit.inBlock,Exit.then]
     refine bodyPost_ret (v:=.tuple #[.slice none 0 0,((aB 3):bX).v]) ?_ rfl ?_;rotate_left
     ·rw[aP.out];exact jX (r:=([],(aB 3))) X9.out Os.nil K9.out (by omega) (λk h=>by cases h)
     ·rw[aT rfl];simp[asAddr,Result.andThen,Act.put,aV (X9.out.row _)]
   |true=>
    have HS2:Hid (rs=if se≠0 then(([],aB 1):List aC×bX) else if sm=true then([],aB 7) else(gl,aB se)):=hZ (by rw[uJ.out,if_neg (by rw[ht];intro h;cases h)]);clear uJ;by_cases c1:se=0
    ·subst c1
     cases sm with
     |true=>
      have aP:Hid (rs=([],aB 7)):=hZ (by rw[HS2.out];rfl);clear HS2 Cg;rcases hke with rfl|rfl|rfl|rfl
      all_goals
       simp[aJ.tk] at ht;subst ht;go_enter Tryz.func55,Tryz.ntmps55;go_wp2_with(first
        |(go_at_call 97;refine(uI.out _).mono ?_;rintro e w' ⟨rfl,rfl⟩))
       go_quiet (fail)
       go_wp2_with(first
        |(go_at_call 94;refine(pJ.out _).mono ?_;rintro e w' ⟨rfl,rfl⟩)
        |(go_at_call 98
          refine(qF.out _ (HD3.out _)).mono ?_;rintro e w4 ⟨u4,rfl,jH,hb4⟩;have X4:=hZ ((uG.out _).below hb4);have K4:=hZ ((HD3.out _).trans (hb4.mono (HD3.out _).size));have U4:=hZ (jH.gD (HD3.out _).size);have N4:Hid (∀k,u4.ownBlock=some k->k≠w.heap.size+1+1):=hZ (λk hk=>Nat.ne_of_gt (Nat.lt_of_lt_of_le (uG.out _).lt (jH.jE k hk).2));have O4:=hZ ((Qm.out _).below hb4);have Cw:w.heap.size+1+1<w4.heap.size:=X4.out.lt;have o0:w4.cell? ⟨w.heap.size+1,0,none⟩=some (.int .i64 3):=by rw[O4.out.cell];rfl
          clear hb4 jH)
        |(go_at_call 75
          refine(lS.out w4 K4.out).mono ?_;rintro e w5 ⟨rfl,hb5⟩;have X5:=hZ (X4.out.below hb5);have K5:=hZ (K4.out.trans (hb5.mono K4.out.size));have O5:=hZ (O4.out.below hb5);have Sm:w.heap.size+1+1<w5.heap.size:=X5.out.lt;have p0:w5.cell? ⟨w.heap.size+1,0,none⟩=some (.int .i64 3):=by rw[O5.out.cell];rfl
          have p4:w5.cell? ⟨w.heap.size+1,4,none⟩=some (.int .i64 ri):=by rw[O5.out.cell];rfl
          have p5:w5.cell? ⟨w.heap.size+1,5,none⟩=some (.int .i64 kv):=by rw[O5.out.cell,Xb];rfl
          rw[Xb] at p5;clear hb5)
        |((with_reducible refine fM bN (w.heap.size+1+1) (nA (aB 7)) ?_ ?_ X9.out rfl rfl (bI _) ?_);rfl;rfl)
        |(go_at_call 52;refine(jT.out 7 _).mono ?_;rintro e w9 ⟨rfl,bC⟩;have X9:=hZ (X5.out.below bC);have K9:=hZ (K5.out.trans (bC.mono K5.out.size));clear bC))
       try simp only[Exit.inBlock,Exit.then]
       refine bodyPost_ret (v:=.tuple #[.slice none 0 0,((aB 7):bX).v]) ?_ rfl ?_;rotate_left
       ·rw[aP.out];exact jX (r:=([],(aB 7))) X9.out Os.nil K9.out (by omega) (λk h=>by cases h)
       ·rw[aT rfl];simp[asAddr,Result.andThen,Act.put,aV (X9.out.row _)]
     |false=>
      have aP:Hid (rs=(gl,aB 0)):=hZ (by rw[HS2.out];rfl);clear HS2;rcases hke with rfl|rfl|rfl|rfl
      all_goals
       simp[aJ.tk] at ht;subst ht;go_enter Tryz.func55,Tryz.ntmps55;go_wp2_with(first
        |(go_at_call 97;refine(uI.out _).mono ?_;rintro e w' ⟨rfl,rfl⟩))
       go_quiet (fail)
       go_wp2_with(first
        |(go_at_call 94;refine(pJ.out _).mono ?_;rintro e w' ⟨rfl,rfl⟩)
        |(go_at_call 98
          refine(qF.out _ (HD3.out _)).mono ?_;rintro e w4 ⟨u4,rfl,jH,hb4⟩;have X4:=hZ ((uG.out _).below hb4);have K4:=hZ ((HD3.out _).trans (hb4.mono (HD3.out _).size));have U4:=hZ (jH.gD (HD3.out _).size);have N4:Hid (∀k,u4.ownBlock=some k->k≠w.heap.size+1+1):=hZ (λk hk=>Nat.ne_of_gt (Nat.lt_of_lt_of_le (uG.out _).lt (jH.jE k hk).2));have O4:=hZ ((Qm.out _).below hb4);have Cw:w.heap.size+1+1<w4.heap.size:=X4.out.lt;have o0:w4.cell? ⟨w.heap.size+1,0,none⟩=some (.int .i64 3):=by rw[O4.out.cell];rfl
          clear hb4 jH)
        |(go_at_call 75
          refine(lS.out w4 K4.out).mono ?_;rintro e w5 ⟨rfl,hb5⟩;have X5:=hZ (X4.out.below hb5);have K5:=hZ (K4.out.trans (hb5.mono K4.out.size));have O5:=hZ (O4.out.below hb5);have Sm:w.heap.size+1+1<w5.heap.size:=X5.out.lt;have p0:w5.cell? ⟨w.heap.size+1,0,none⟩=some (.int .i64 3):=by rw[O5.out.cell];rfl
          have p4:w5.cell? ⟨w.heap.size+1,4,none⟩=some (.int .i64 ri):=by rw[O5.out.cell];rfl
          have p5:w5.cell? ⟨w.heap.size+1,5,none⟩=some (.int .i64 kv):=by rw[O5.out.cell,Xb];rfl
          rw[Xb] at p5;clear hb5)
        |(go_at_call 101
          refine(Cg.out w5 K5.out).mono ?_;rintro e w6 ⟨u6,rfl,wC,hb6⟩;have X6:=hZ (X5.out.below hb6);have K6:=hZ (K5.out.trans (hb6.mono K5.out.size));have U6:=hZ (wC.gD K5.out.size);have N6:Hid (∀k,u6.ownBlock=some k->k≠w.heap.size+1+1):=hZ (λk hk=>by have:=(wC.jE k hk).2;omega);clear hb6 wC)
        |((with_reducible refine fM bN (w.heap.size+1+1) (nA (aB 0)) ?_ ?_ X9.out rfl rfl (bI _) ?_);rfl;rfl)
        |(go_at_call 52;refine(jT.out 0 _).mono ?_;rintro e w9 ⟨rfl,bC⟩;have X9:=hZ (X6.out.below bC);have B9:=hZ bC;have K9:=hZ (K6.out.trans (bC.mono K6.out.size));clear bC))
       try simp only[Exit.inBlock,Exit.then]
       refine bodyPost_ret (v:=.tuple #[u6,((aB 0):bX).v]) ?_ rfl ?_;rotate_left
       ·rw[aP.out];exact jX (r:=(gl,(aB 0))) X9.out (U6.out.below B9.out (nR _)) K9.out (by omega) N6.out
       ·rw[aT rfl];simp[asAddr,Result.andThen,Act.put,aV (X9.out.row _)]
    ·have aP:Hid (rs=([],aB 1)):=hZ (by rw[HS2.out,if_pos c1])
     have hne:(se !=0)=true:=by rw[bne_iff_ne];exact c1
     clear HS2 Cg lS;rcases hke with rfl|rfl|rfl|rfl
     all_goals
      simp[aJ.tk] at ht;subst ht;go_enter Tryz.func55,Tryz.ntmps55;go_wp2_with(first
       |(go_at_call 97;refine(uI.out _).mono ?_;rintro e w' ⟨rfl,rfl⟩))
      go_quiet (fail)
      go_wp2_with(first
       |(go_at_call 94;refine(pJ.out _).mono ?_;rintro e w' ⟨rfl,rfl⟩)
       |(go_at_call 98
         refine(qF.out _ (HD3.out _)).mono ?_;rintro e w4 ⟨u4,rfl,jH,hb4⟩;have X4:=hZ ((uG.out _).below hb4);have K4:=hZ ((HD3.out _).trans (hb4.mono (HD3.out _).size));have U4:=hZ (jH.gD (HD3.out _).size);have N4:Hid (∀k,u4.ownBlock=some k->k≠w.heap.size+1+1):=hZ (λk hk=>Nat.ne_of_gt (Nat.lt_of_lt_of_le (uG.out _).lt (jH.jE k hk).2));have O4:=hZ ((Qm.out _).below hb4);have Cw:w.heap.size+1+1<w4.heap.size:=X4.out.lt;have o0:w4.cell? ⟨w.heap.size+1,0,none⟩=some (.int .i64 3):=by rw[O4.out.cell];rfl
         clear hb4 jH)
       |((with_reducible refine fM bN (w.heap.size+1+1) (nA (aB 1)) ?_ ?_ X9.out rfl rfl (bI _) ?_);rfl;rfl)
       |(go_at_call 52;refine(jT.out 1 _).mono ?_;rintro e w9 ⟨rfl,bC⟩;have X9:=hZ (X4.out.below bC);have K9:=hZ (K4.out.trans (bC.mono K4.out.size));clear bC))
      try simp only[Exit.inBlock,Exit.then]
      refine bodyPost_ret (v:=.tuple #[.slice none 0 0,((aB 1):bX).v]) ?_ rfl ?_;rotate_left
      ·rw[aP.out];exact jX (r:=([],(aB 1))) X9.out Os.nil K9.out (by omega) (λk h=>by cases h)
      ·rw[aT rfl];simp[asAddr,Result.andThen,Act.put,aV (X9.out.row _)]
  ·have aP:Hid (rs=([],aB er)):=hZ (by rw[HS.out,if_neg (by intro h;cases h)];simp[c3])
   have hne:(er !=0)=true:=by rw[bne_iff_ne];exact c3
   clear HS qF lS Hz Cg;go_enter Tryz.func55,Tryz.ntmps55;go_wp2_with(first
    |(go_at_call 97;refine(uI.out _).mono ?_;rintro e w' ⟨rfl,rfl⟩))
   go_quiet (fail)
   go_wp2_with(first
    |(go_at_call 94;refine(pJ.out _).mono ?_;rintro e w' ⟨rfl,rfl⟩)
    |((with_reducible refine fM bN (w.heap.size+1+1) (nA (aB er)) ?_ ?_ X9.out rfl rfl (bI _) ?_);rfl;rfl)
    |(go_at_call 52;refine(jT.out er _).mono ?_;rintro e w9 ⟨rfl,bC⟩;have X9:=hZ ((uG.out _).below bC);have K9:=hZ ((HD3.out _).trans (bC.mono (HD3.out _).size));clear bC))
   try simp only[Exit.inBlock,Exit.then]
   refine bodyPost_ret (v:=.tuple #[.slice none 0 0,((aB er):bX).v]) ?_ rfl ?_;rotate_left
   ·rw[aP.out];exact jX (r:=([],(aB er))) X9.out Os.nil K9.out (by omega) (λk h=>by cases h)
   ·rw[aT rfl];simp[asAddr,Result.andThen,Act.put,aV (X9.out.row _)]
theorem aMh {w:World} {v:Value} {l:List aC} (h:Rv w v l) (K:aJ) (o:aL) (ho:o.fits) (hkd:o.kind=4):
 Calls Tryz.prog 55 #[v,K.v,o.v] w (Ea w (iK l K o)):=by
 obtain⟨k,pr,pg,cn,ri,ke,bR,dr,ad,sz,va,ta⟩:=o;obtain⟨t0,d0,t1,d1,t2,d2,t3,d3⟩:=K;simp only at hkd;subst hkd;unfold aL.fits eG at ho;simp only at ho;obtain⟨fk,fp,Py,fc,fri,fke,Xi,Sw,Xf,fva,fta⟩:=ho;simp only[aL.v,aJ.v];have jT:=hZ (λ(e:Int) (W:World)=>uY e W);have pJ:=hZ (λ(W:World)=>Gf ri W);have uI:=hZ (λ(W:World)=>Oc pg cn Py fc W);have Dj:Hid ((w.alloc (.cells #[.bool t0,.int .i64 d0,.bool t1,.int .i64 d1,.bool t2,.int .i64 d2,.bool t3,.int .i64 d3] 40)).heap.size=w.heap.size+1):=hZ (by simp);have HE2:Hid (((w.alloc (.cells #[.bool t0,.int .i64 d0,.bool t1,.int .i64 d1,.bool t2,.int .i64 d2,.bool t3,.int .i64 d3] 40)).alloc (.cells #[.int .i64 4,.int .i64 pr,.int .i64 pg,.int .i64 cn,.int .i64 ri,.int .i64 ke,.bool bR,.int .i64 dr,.int .i64 ad,.int .i64 sz,.int .i64 va,.int .i64 ta] 26)).heap.size=w.heap.size+1+1):=hZ (by simp);have HW3:Hid (Below w.heap.size w (((w.alloc (.cells #[.bool t0,.int .i64 d0,.bool t1,.int .i64 d1,.bool t2,.int .i64 d2,.bool t3,.int .i64 d3] 40)).alloc (.cells #[.int .i64 4,.int .i64 pr,.int .i64 pg,.int .i64 cn,.int .i64 ri,.int .i64 ke,.bool bR,.int .i64 dr,.int .i64 ad,.int .i64 sz,.int .i64 va,.int .i64 ta] 26)).alloc (.cells #[.int .i64 0,.int .i64 0,.int .i64 0,.int .i64 0] 35))):=hZ ((((Below.refl _ _).alloc (nR _) _).alloc (by simp) _).alloc (by simp;omega) _);have wG:Hid (Bx (((w.alloc (.cells #[.bool t0,.int .i64 d0,.bool t1,.int .i64 d1,.bool t2,.int .i64 d2,.bool t3,.int .i64 d3] 40)).alloc (.cells #[.int .i64 4,.int .i64 pr,.int .i64 pg,.int .i64 cn,.int .i64 ri,.int .i64 ke,.bool bR,.int .i64 dr,.int .i64 ad,.int .i64 sz,.int .i64 va,.int .i64 ta] 26)).alloc (.cells #[.int .i64 0,.int .i64 0,.int .i64 0,.int .i64 0] 35)) (w.heap.size+1+1) 35 #[.int .i64 0,.int .i64 0,.int .i64 0,.int .i64 0]):=hZ (by rw[<-HE2.out];exact Bx.new _ _ _);have Ht:Hid (Bx (((w.alloc (.cells #[.bool t0,.int .i64 d0,.bool t1,.int .i64 d1,.bool t2,.int .i64 d2,.bool t3,.int .i64 d3] 40)).alloc (.cells #[.int .i64 4,.int .i64 pr,.int .i64 pg,.int .i64 cn,.int .i64 ri,.int .i64 ke,.bool bR,.int .i64 dr,.int .i64 ad,.int .i64 sz,.int .i64 va,.int .i64 ta] 26)).alloc (.cells #[.int .i64 0,.int .i64 0,.int .i64 0,.int .i64 0] 35)) (w.heap.size+1) 26 #[.int .i64 4,.int .i64 pr,.int .i64 pg,.int .i64 cn,.int .i64 ri,.int .i64 ke,.bool bR,.int .i64 dr,.int .i64 ad,.int .i64 sz,.int .i64 va,.int .i64 ta]):=hZ (by rw[<-Dj.out];exact(Bx.new _ _ _).below (aD _ _));have HD3:Hid (∀m,Below w.heap.size w ((((w.alloc (.cells #[.bool t0,.int .i64 d0,.bool t1,.int .i64 d1,.bool t2,.int .i64 d2,.bool t3,.int .i64 d3] 40)).alloc (.cells #[.int .i64 4,.int .i64 pr,.int .i64 pg,.int .i64 cn,.int .i64 ri,.int .i64 ke,.bool bR,.int .i64 dr,.int .i64 ad,.int .i64 sz,.int .i64 va,.int .i64 ta] 26)).alloc (.cells #[.int .i64 0,.int .i64 0,.int .i64 0,.int .i64 0] 35)).drewN m)):=hZ (λm=>HW3.out.trans (below_drewN _ _ _));have uG:Hid (∀m,Bx ((((w.alloc (.cells #[.bool t0,.int .i64 d0,.bool t1,.int .i64 d1,.bool t2,.int .i64 d2,.bool t3,.int .i64 d3] 40)).alloc (.cells #[.int .i64 4,.int .i64 pr,.int .i64 pg,.int .i64 cn,.int .i64 ri,.int .i64 ke,.bool bR,.int .i64 dr,.int .i64 ad,.int .i64 sz,.int .i64 va,.int .i64 ta] 26)).alloc (.cells #[.int .i64 0,.int .i64 0,.int .i64 0,.int .i64 0] 35)).drewN m) (w.heap.size+1+1) 35 #[.int .i64 0,.int .i64 0,.int .i64 0,.int .i64 0]):=hZ (λm=>wG.out.below (below_drewN _ _ _));have Qm:Hid (∀m,Bx ((((w.alloc (.cells #[.bool t0,.int .i64 d0,.bool t1,.int .i64 d1,.bool t2,.int .i64 d2,.bool t3,.int .i64 d3] 40)).alloc (.cells #[.int .i64 4,.int .i64 pr,.int .i64 pg,.int .i64 cn,.int .i64 ri,.int .i64 ke,.bool bR,.int .i64 dr,.int .i64 ad,.int .i64 sz,.int .i64 va,.int .i64 ta] 26)).alloc (.cells #[.int .i64 0,.int .i64 0,.int .i64 0,.int .i64 0] 35)).drewN m) (w.heap.size+1) 26 #[.int .i64 4,.int .i64 pr,.int .i64 pg,.int .i64 cn,.int .i64 ri,.int .i64 ke,.bool bR,.int .i64 dr,.int .i64 ad,.int .i64 sz,.int .i64 va,.int .i64 ta]):=hZ (λm=>Ht.out.below (below_drewN _ _ _));obtain⟨A,n,c,rfl,hz,hn⟩:=h;have qF:=hZ (λ(W:World) (hb:Below w.heap.size w W)=>(show Calls Tryz.prog 98 #[.slice A n c,.int .i64 pg,.int .i64 (pg+cn)] W (TR (dY l pg (pg+cn) vI) (dP l pg (pg+cn)) W) from Vb A n c l pg (pg+cn) W w.heap.size (hz.below hb) hb.size (by omega)));have lS:=hZ (λ(W:World) (hb:Below w.heap.size w W)=>Kb _ (enters_of Tryz.func99 (by kernel_rfl) rfl) _ Kc A n c l pg (pg+cn) W w.heap.size (hz.below hb) hb.size (by omega));have Hz:=hZ (λ(W:World) (hb:Below w.heap.size w W)=>Uh A n c l pg (pg+cn) W w.heap.size (hz.below hb) hb.size (by omega));have Cg:=hZ (λ(W:World) (hb:Below w.heap.size w W)=>(show Calls Tryz.prog 101 #[.slice A n c,.int .i64 pg,.int .i64 (pg+cn),.int .i64 ri,.int .i64 ke] W (TR (dY l pg (pg+cn) (q9 ri ke)) (dP l pg (pg+cn)) W) from Q0 A n c l pg (pg+cn) ri ke W w.heap.size (hz.below hb) hb.size (by omega)));have HS:=hZ (show iK l ⟨t0,d0,t1,d1,t2,d2,t3,d3⟩ ⟨4,pr,pg,cn,ri,ke,bR,dr,ad,sz,va,ta⟩=(if pY pg cn=false then(([],aB 2):List aC×bX)
  else if(if(4:Int)=3 then(if fH ri≠0 then fH ri else if(aJ.mk t0 d0 t1 d1 t2 d2 t3 d3).tk ke=false then 3 else 0) else 0)≠0 then([],aB (if(4:Int)=3 then(if fH ri≠0 then fH ri else if(aJ.mk t0 d0 t1 d1 t2 d2 t3 d3).tk ke=false then 3 else 0) else 0))
  else if dP l pg (pg+cn)≠0/\(4:Int)≠2 then([],aB 1)
  else if(4:Int)=4 then(dY l pg (pg+cn) vI,aB 0)
  else if((fA pg (pg+cn) l).any λx=>x.a.s)=true then([],aB 7)
  else if(4:Int)=2 then(sP l pg (pg+cn),aB (nV l pg (pg+cn)))
  else(dY l pg (pg+cn) (q9 ri ke),aB (dP l pg (pg+cn)))) from rfl)
 clear hz;generalize iK l ⟨t0,d0,t1,d1,t2,d2,t3,d3⟩ ⟨4,pr,pg,cn,ri,ke,bR,dr,ad,sz,va,ta⟩=rs at*;have hsp2:pY pg cn=true->0<=pg/\1<=cn/\cn<=64/\pg<=64 -cn:=λh=>by unfold pY at h;simp at h;omega
 obtain⟨se,hse⟩:∃e,e=dP l pg (pg+cn):=⟨_,rfl⟩;obtain⟨sl,hsl⟩:∃e,e=dY l pg (pg+cn) vI:=⟨_,rfl⟩;obtain⟨gl,hgl⟩:∃e,e=dY l pg (pg+cn) (q9 ri ke):=⟨_,rfl⟩;obtain⟨sm,hsm⟩:∃e,e=((fA pg (pg+cn) l).any λx=>x.a.s):=⟨_,rfl⟩;obtain⟨cl,hcl⟩:∃e,e=sP l pg (pg+cn):=⟨_,rfl⟩;obtain⟨ce,hce⟩:∃e,e=nV l pg (pg+cn):=⟨_,rfl⟩;obtain⟨sp,hsp⟩:∃e,e=pY pg cn:=⟨_,rfl⟩;obtain⟨er,her⟩:∃e,e=fH ri:=⟨_,rfl⟩;rw[<-hse,<-hsl] at qF;rw[<-hse,<-hgl] at Cg;rw[<-hsm] at lS;rw[<-hcl,<-hce] at Hz;rw[<-hse,<-hsl,<-hgl,<-hsm,<-hcl,<-hce,<-hsp,<-her] at HS;rw[<-hsp] at uI hsp2;rw[<-her] at pJ;clear hse hsl hgl hsm hcl hce hsp her;cases sp with
 |false=>
  have aP:Hid (rs=([],aB 2)):=hZ (by rw[HS.out,if_pos rfl]);clear HS qF lS Hz Cg hsp2;go_enter Tryz.func55,Tryz.ntmps55;go_wp2_with(first
   |(go_at_call 97;refine(uI.out _).mono ?_;rintro e w' ⟨rfl,rfl⟩)
   |((with_reducible refine fM bN (w.heap.size+1+1) (nA (aB 2)) ?_ ?_ X9.out rfl rfl (bI _) ?_);rfl;rfl)
   |(go_at_call 52;refine(jT.out 2 _).mono ?_;rintro e w9 ⟨rfl,bC⟩;have X9:=hZ (wG.out.below bC);have K9:=hZ (HW3.out.trans (bC.mono HW3.out.size));clear bC))
  try simp only[Exit.inBlock,Exit.then]
  refine bodyPost_ret (v:=.tuple #[.slice none 0 0,((aB 2):bX).v]) ?_ rfl ?_;rotate_left
  ·rw[aP.out];exact jX (r:=([],(aB 2))) X9.out Os.nil K9.out (by omega) (λk h=>by cases h)
  ·rw[aT rfl];simp[asAddr,Result.andThen,Act.put,aV (X9.out.row _)]
 |true=>
  obtain⟨q0,q1,q2,q3⟩:=hsp2 rfl;clear hsp2;have HS2:Hid (rs=if se≠0 then(([],aB 1):List aC×bX) else(sl,aB 0)):=hZ (by rw[HS.out,if_neg (by intro h;cases h),if_neg (by simp)];by_cases e:se=0<;>simp[e]);clear HS lS Hz Cg;by_cases c1:se=0
  ·subst c1
   have aP:Hid (rs=(sl,aB 0)):=hZ (by rw[HS2.out,if_neg (λh=>h rfl)]);clear HS2;go_enter Tryz.func55,Tryz.ntmps55;go_wp2_with(first
    |(go_at_call 97;refine(uI.out _).mono ?_;rintro e w' ⟨rfl,rfl⟩))
   go_quiet (fail)
   go_wp2_with(first
    |(go_at_call 98
      refine(qF.out _ (HD3.out _)).mono ?_;rintro e w4 ⟨u4,rfl,jH,hb4⟩;have X4:=hZ ((uG.out _).below hb4);have K4:=hZ ((HD3.out _).trans (hb4.mono (HD3.out _).size));have U4:=hZ (jH.gD (HD3.out _).size);have N4:Hid (∀k,u4.ownBlock=some k->k≠w.heap.size+1+1):=hZ (λk hk=>Nat.ne_of_gt (Nat.lt_of_lt_of_le (uG.out _).lt (jH.jE k hk).2));have O4:=hZ ((Qm.out _).below hb4);have Cw:w.heap.size+1+1<w4.heap.size:=X4.out.lt;have o0:w4.cell? ⟨w.heap.size+1,0,none⟩=some (.int .i64 4):=by rw[O4.out.cell];rfl
      clear hb4 jH)
    |((with_reducible refine fM bN (w.heap.size+1+1) (nA (aB 0)) ?_ ?_ X4.out rfl rfl (bI _) ?_);rfl;rfl))
   try simp only[Exit.inBlock,Exit.then]
   refine bodyPost_ret (v:=.tuple #[u4,((aB 0):bX).v]) ?_ rfl ?_;rotate_left
   ·rw[aP.out];exact jX (r:=(sl,(aB 0))) X4.out U4.out K4.out (by omega) N4.out
   ·rw[aT rfl];simp[asAddr,Result.andThen,Act.put,aV (X4.out.row _)]
  ·have aP:Hid (rs=([],aB 1)):=hZ (by rw[HS2.out,if_pos c1])
   have hne:(se !=0)=true:=by rw[bne_iff_ne];exact c1
   clear HS2;go_enter Tryz.func55,Tryz.ntmps55;go_wp2_with(first
    |(go_at_call 97;refine(uI.out _).mono ?_;rintro e w' ⟨rfl,rfl⟩))
   go_quiet (fail)
   go_wp2_with(first
    |(go_at_call 98
      refine(qF.out _ (HD3.out _)).mono ?_;rintro e w4 ⟨u4,rfl,jH,hb4⟩;have X4:=hZ ((uG.out _).below hb4);have K4:=hZ ((HD3.out _).trans (hb4.mono (HD3.out _).size));have U4:=hZ (jH.gD (HD3.out _).size);have N4:Hid (∀k,u4.ownBlock=some k->k≠w.heap.size+1+1):=hZ (λk hk=>Nat.ne_of_gt (Nat.lt_of_lt_of_le (uG.out _).lt (jH.jE k hk).2));have O4:=hZ ((Qm.out _).below hb4);have Cw:w.heap.size+1+1<w4.heap.size:=X4.out.lt;have o0:w4.cell? ⟨w.heap.size+1,0,none⟩=some (.int .i64 4):=by rw[O4.out.cell];rfl
      clear hb4 jH)
    |((with_reducible refine fM bN (w.heap.size+1+1) (nA (aB 1)) ?_ ?_ X9.out rfl rfl (bI _) ?_);rfl;rfl)
    |(go_at_call 52;refine(jT.out 1 _).mono ?_;rintro e w9 ⟨rfl,bC⟩;have X9:=hZ (X4.out.below bC);have K9:=hZ (K4.out.trans (bC.mono K4.out.size));clear bC))
   try simp only[Exit.inBlock,Exit.then]
   refine bodyPost_ret (v:=.tuple #[.slice none 0 0,((aB 1):bX).v]) ?_ rfl ?_;rotate_left
   ·rw[aP.out];exact jX (r:=([],(aB 1))) X9.out Os.nil K9.out (by omega) (λk h=>by cases h)
   ·rw[aT rfl];simp[asAddr,Result.andThen,Act.put,aV (X9.out.row _)]
theorem aGR {w:World} {v:Value} {l:List aC} (h:Rv w v l) (K:aJ) (o:aL) (ho:o.fits) (hkd:o.kind=2\/o.kind=3\/o.kind=4):
 Calls Tryz.prog 55 #[v,K.v,o.v] w (Ea w (iK l K o)):=by
 rcases hkd with hk|hk|hk
 ·exact aMj h K o ho hk
 ·exact aMi h K o ho hk
 ·exact aMh h K o ho hk
end Go.Proofs.YtoogfmbojlpjaaaGreat
