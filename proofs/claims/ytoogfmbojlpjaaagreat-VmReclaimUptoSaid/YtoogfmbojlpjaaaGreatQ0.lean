/- Lemmas. -/
import Derived.Test.YtoogfmbojlpjaaaGreatRows
import Derived.WalkKit
import Derived.WalkSpells
import Derived.WalkLawsBesides
import Derived.RowKit3
import Derived.Lib.Hide
import Derived.Handy
import Derived.Laws.BitsAllLaws
import Derived.Laws.BitsLemmas
import Derived.Test.YtoogfmbojlpjaaaGreatQA
set_option maxRecDepth 100000
set_option maxHeartbeats 32000000
set_option linter.unusedVariables false
set_option linter.unusedSimpArgs false
namespace Go.Proofs.YtoogfmbojlpjaaaGreat
open Go.RowKit
theorem iR {a c:Int} (h:a=c):Ending.returned (.int .i64 a)=.returned (.int .i64 c):=by rw[h]
theorem bH {a c:Bool} (h:a=c):Ending.returned (.bool a)=.returned (.bool c):=by rw[h]
theorem jQ {a b c d:Int} (h:a=c) (h':b=d):Ending.returned (.tuple #[.int .i64 a,.int .i64 b])=.returned (.tuple #[.int .i64 c,.int .i64 d]):=by rw[h,h']
theorem wO {W w1:World} (hb:Below W.heap.size W w1):(∀b o,b<W.heap.size->w1.cell? ⟨b,o,none⟩=W.cell? ⟨b,o,none⟩)/\(∀b o,b<W.heap.size->w1.frozen? ⟨b,o,none⟩=W.frozen? ⟨b,o,none⟩):=
 ⟨λb o h=>hb.cell (p:=⟨b,o,none⟩) h,λb o h=>hb.frozen (p:=⟨b,o,none⟩) h⟩
theorem ofInt64 (v:Int):(BitVec.ofInt 64 v).toNat=(v%18446744073709551616).toNat:=by rw[BitVec.toNat_ofInt];rfl
theorem aDl (v:Int) (k:Nat) (hk:k<63):bits .and .i64 v ((2^k -1:Nat):Int)=v%(2^k:Nat):=by
 have h2:2^k<2^63:=Nat.pow_lt_pow_right (by decide) hk;have hp:0<2^k:=Nat.two_pow_pos k;have hd:((2^k:Nat):Int) ∣ (18446744073709551616:Int):=by
  have:(2^k) ∣ 2^64:=Nat.pow_dvd_pow 2 (by omega);exact Int.ofNat_dvd.2 this
 show IntKind.i64.wrap ((BitVec.ofInt 64 v&&& BitVec.ofInt 64 _).toNat:Int)=_;have hm:(((2^k -1:Nat):Int)%18446744073709551616).toNat=2^k -1:=by omega
 rw[BitVec.toNat_and,ofInt64,ofInt64,hm,Nat.and_two_pow_sub_one_eq_mod];have h3:(((v%18446744073709551616).toNat%2^k:Nat):Int)=v%((2^k:Nat):Int):=by
  rw[Int.natCast_emod,Int.toNat_of_nonneg (by omega),Int.emod_emod_of_dvd _ hd]
 rw[h3,IntKind.wrap_i64];have h4:=Int.emod_nonneg v (b:=((2^k:Nat):Int)) (by omega);have h5:=Int.emod_lt_of_pos v (b:=((2^k:Nat):Int)) (by omega);omega
theorem aNF (v:Int):bits .and .i64 v 255=v%256:=aDl v 8 (by decide)
theorem aKq (v:Int):bits .and .i64 v 15=v%16:=aDl v 4 (by decide)
theorem vK (i:Nat) (k n:Int) (h0:0<=k) (h1:k<(2^i:Nat)) (hn:0<=n) (hd:n%(2^i:Nat)=0) (hb:n+k<9223372036854775808):bits .or .i64 k n=k+n:=by
 obtain⟨k,rfl⟩:=Int.eq_ofNat_of_zero_le h0;obtain⟨n,rfl⟩:=Int.eq_ofNat_of_zero_le hn;show IntKind.i64.wrap ((BitVec.ofInt 64 (k:Int)|||BitVec.ofInt 64 (n:Int)).toNat:Int)=_;rw[BitVec.toNat_or,ofInt64,ofInt64];have e1:((k:Int)%18446744073709551616).toNat=k:=by omega
 have e2:((n:Int)%18446744073709551616).toNat=n:=by omega
 have e3:k|||n=k+n:=by
  rw[Nat.or_comm,nat_join i n k (by omega) (by omega)];omega
 rw[e1,e2,e3,IntKind.wrap_i64];omega
theorem step1 {w w1:World} {C:Array Value} {t:TypeId} (hb:Below (w.alloc (.cells C t)).heap.size (w.alloc (.cells C t)) w1):
 (∀b o,b<w.heap.size->w1.cell? ⟨b,o,none⟩=w.cell? ⟨b,o,none⟩)/\(∀o,w1.cell? ⟨w.heap.size,o,none⟩=C[o]?)/\w.heap.size<w1.heap.size:=by
 refine⟨λb o h=> ?_,λo=> ?_,?_⟩
 ·rw[hb.cell (p:=⟨b,o,none⟩) (by simp;omega)];exact World.cell?_alloc_lt w _ ⟨b,o,none⟩ h
 ·rw[hb.cell (p:=⟨w.heap.size,o,none⟩) (by simp)];exact World.cell?_alloc_new w C t o
 ·have:=hb.size;simp at this;omega
section
structure aJ where
 t0:Bool
 d0:Int
 t1:Bool
 d1:Int
 t2:Bool
 d2:Int
 t3:Bool
 d3:Int
abbrev aJ.v (K:aJ):Value:=.agg #[.bool K.t0,.int .i64 K.d0,.bool K.t1,.int .i64 K.d1,.bool K.t2,.int .i64 K.d2,.bool K.t3,.int .i64 K.d3]
attribute [local go_sem] aJ.v
def Ar:aJ:=⟨false,0,false,0,false,0,false,0⟩
def aJ.tk (K:aJ) (k:Int):Bool:=if k=0 then K.t0 else if k=1 then K.t1 else if k=2 then K.t2 else if k=3 then K.t3 else false
def aJ.set (K:aJ) (k:Int) (t:Bool) (d:Int):aJ:=
 if k=0 then { K with t0:=t,d0:=d } else if k=1 then { K with t1:=t,d1:=d } else if k=2 then { K with t2:=t,d2:=d } else if k=3 then { K with t3:=t,d3:=d } else K
def aJ.free (K:aJ):Int:=if K.t0=false then 0 else if K.t1=false then 1 else if K.t2=false then 2 else if K.t3=false then 3 else 4
def Ox (K:aJ):aJ:=if K.free=4 then Ar else K.set K.free true 0
def Rb (K:aJ):Int:=if K.free=4 then 0 else K.free
def Dt (K:aJ):Int:=if K.free=4 then 4 else 0
def iT (K:aJ) (k least d:Int):Int:=if least<=k/\K.tk k=true then(if d<0\/3<d then 2 else 0) else 3
def rD (K:aJ) (k least:Int) (t:Bool) (d:Int):aJ:=if iT K k least d=0 then K.set k t d else Ar
theorem aMV (t0 t1 t2 t3:Bool) (d0 d1 d2 d3:Int) (w:World):(Instr.index 40 (.agg #[.bool t0,.int .i64 d0,.bool t1,.int .i64 d1,.bool t2,.int .i64 d2,.bool t3,.int .i64 d3]) (.int .i64 0)).run Tryz.prog w=.ok (.agg #[.bool t0,.int .i64 d0]) w:=by kernel_rfl
theorem aMU (t0 t1 t2 t3:Bool) (d0 d1 d2 d3:Int) (w:World):(Instr.index 40 (.agg #[.bool t0,.int .i64 d0,.bool t1,.int .i64 d1,.bool t2,.int .i64 d2,.bool t3,.int .i64 d3]) (.int .i64 1)).run Tryz.prog w=.ok (.agg #[.bool t1,.int .i64 d1]) w:=by kernel_rfl
theorem aMT (t0 t1 t2 t3:Bool) (d0 d1 d2 d3:Int) (w:World):(Instr.index 40 (.agg #[.bool t0,.int .i64 d0,.bool t1,.int .i64 d1,.bool t2,.int .i64 d2,.bool t3,.int .i64 d3]) (.int .i64 2)).run Tryz.prog w=.ok (.agg #[.bool t2,.int .i64 d2]) w:=by kernel_rfl
theorem aMS (t0 t1 t2 t3:Bool) (d0 d1 d2 d3:Int) (w:World):(Instr.index 40 (.agg #[.bool t0,.int .i64 d0,.bool t1,.int .i64 d1,.bool t2,.int .i64 d2,.bool t3,.int .i64 d3]) (.int .i64 3)).run Tryz.prog w=.ok (.agg #[.bool t3,.int .i64 d3]) w:=by kernel_rfl
theorem aDH (K:aJ) (w:World):
 Calls Tryz.prog 73 #[K.v] w λe w'=>e=.returned (.tuple #[(Ox K).v,.int .i64 (Rb K),.int .i64 (Dt K)])/\Below w.heap.size w w':=by
 obtain⟨t0,d0,t1,d1,t2,d2,t3,d3⟩:=K;have i0:=λw=>aMV t0 t1 t2 t3 d0 d1 d2 d3 w;have i1:=λw=>aMU t0 t1 t2 t3 d0 d1 d2 d3 w;have i2:=λw=>aMT t0 t1 t2 t3 d0 d1 d2 d3 w;have i3:=λw=>aMS t0 t1 t2 t3 d0 d1 d2 d3 w;simp only[aJ.v];go_enter Tryz.func73,Tryz.ntmps73;go_wp2
 go_rounds 5
 all_goals go_returns
 all_goals (try simp only[Bool.not_eq_true',Bool.not_eq_false'] at*)
 all_goals (subst_vars;refine⟨?_,by go_grown⟩;simp[Ox,Rb,Dt,aJ.free,aJ.set,Ar])
theorem aAT {K:aJ} {k least d:Int} (h:k<0\/4<=k):iT K k least d=3:=by
 unfold iT aJ.tk;rw[if_neg];rintro⟨_,h2⟩;rw[if_neg (by omega),if_neg (by omega),if_neg (by omega),if_neg (by omega)] at h2;cases h2
theorem aCk (K:aJ) (k:Int) (w:World):
 Calls Tryz.prog 74 #[K.v,.int .i64 k] w λe w'=>e=.returned (.tuple #[(rD K k 1 false 0).v,.int .i64 (iT K k 1 0)])/\Below w.heap.size w w':=by
 obtain⟨t0,d0,t1,d1,t2,d2,t3,d3⟩:=K;simp only[aJ.v];by_cases hk:k<0\/4<=k
 ·have ho:=hk
  rcases hk with hk|hk
  all_goals
   go_enter Tryz.func74,Tryz.ntmps74;go_wp2
   all_goals go_returns
   all_goals (refine⟨?_,by go_grown⟩;simp[rD,aAT ho,Ar])
 ·have hk':k=0\/k=1\/k=2\/k=3:=by omega
  clear hk;rcases hk' with rfl|rfl|rfl|rfl
  all_goals
   go_enter Tryz.func74,Tryz.ntmps74;go_wp2
   all_goals go_returns
   all_goals (try simp only[Bool.not_eq_true',Bool.not_eq_false'] at*)
   all_goals (subst_vars;refine⟨?_,by go_grown⟩;simp[rD,iT,aJ.tk,aJ.set,Ar])
theorem aDG (K:aJ) (k d:Int) (w:World):
 Calls Tryz.prog 77 #[K.v,.int .i64 k,.int .i64 d] w λe w'=>e=.returned (.tuple #[(rD K k 0 true d).v,.int .i64 (iT K k 0 d)])/\Below w.heap.size w w':=by
 obtain⟨t0,d0,t1,d1,t2,d2,t3,d3⟩:=K;simp only[aJ.v];by_cases hk:k<0\/4<=k
 ·have ho:=hk
  rcases hk with hk|hk
  all_goals
   go_enter Tryz.func77,Tryz.ntmps77;go_wp2
   all_goals go_returns
   all_goals (refine⟨?_,by go_grown⟩;simp[rD,aAT ho,Ar])
 ·have hk':k=0\/k=1\/k=2\/k=3:=by omega
  clear hk;rcases hk' with rfl|rfl|rfl|rfl
  all_goals
   go_enter Tryz.func77,Tryz.ntmps77;go_wp2
   all_goals go_returns
   all_goals (try simp only[Bool.not_eq_true',Bool.not_eq_false'] at*)
   all_goals (subst_vars;refine⟨?_,by go_grown⟩;first|(simp[rD,iT,aJ.tk,aJ.set,Ar];done)|(have hx:d<0\/3<d:=(by omega);simp[rD,iT,aJ.tk,Ar,hx];done)|(have hx:¬(d<0\/3<d):=(by omega);simp[rD,iT,aJ.tk,aJ.set,hx];done))
theorem aA5 (w:World):
 Calls Tryz.prog 37 #[] w λe w'=>e=.returned (.agg #[.bool true,.int .i64 0,.bool false,.int .i64 0,.bool false,.int .i64 0,.bool false,.int .i64 0])/\Below w.heap.size w w':=by
 go_enter Tryz.func37,Tryz.ntmps37;go_wp2
 go_returns
 exact⟨rfl,by go_grown⟩
end
section
attribute [local go_sem] aJ.v
def fH (r:Int):Int:=if r<0\/7<r then 2 else if 6<=r then 6 else 0
theorem and_1 (v:Int):bits .and .i64 v 1=v%2:=by
 show IntKind.i64.wrap ((BitVec.ofInt 64 v&&& BitVec.ofInt 64 1).toNat:Int)=_;have hm:((1:Int)%18446744073709551616).toNat=1:=by decide
 rw[BitVec.toNat_and,ofInt64,ofInt64,hm];have hb:=nat_bit 0 (v%18446744073709551616).toNat;simp only[Nat.reducePow] at hb;rw[hb,IntKind.wrap_i64];omega
theorem and_2 (v:Int):bits .and .i64 v 2=v/2%2*2:=by
 show IntKind.i64.wrap ((BitVec.ofInt 64 v&&& BitVec.ofInt 64 2).toNat:Int)=_;have hm:((2:Int)%18446744073709551616).toNat=2:=by decide
 rw[BitVec.toNat_and,ofInt64,ofInt64,hm];have hb:=nat_bit 1 (v%18446744073709551616).toNat;simp only[Nat.reducePow] at hb;rw[hb,IntKind.wrap_i64];omega
theorem aOf (v:Int):bits .and .i64 v 4=v/4%2*4:=by
 show IntKind.i64.wrap ((BitVec.ofInt 64 v&&& BitVec.ofInt 64 4).toNat:Int)=_;have hm:((4:Int)%18446744073709551616).toNat=4:=by decide
 rw[BitVec.toNat_and,ofInt64,ofInt64,hm];have hb:=nat_bit 2 (v%18446744073709551616).toNat;simp only[Nat.reducePow] at hb;rw[hb,IntKind.wrap_i64];omega
attribute [local go_sem] and_1 and_2 aOf
theorem Gf (r:Int) (w:World):
 Calls Tryz.prog 94 #[.int .i64 r] w λe w'=>e=.returned (.int .i64 (fH r))/\w'=w:=by
 go_enter Tryz.func94,Tryz.ntmps94;go_wp2
 all_goals go_ret
 all_goals (refine⟨iR ?_,rfl⟩;unfold fH;(try simp only[bne_iff_ne,bne_eq_false_iff_eq,ne_eq] at*);first|(rw[if_pos (by omega)];done)|(rw[if_neg (by omega),if_pos (by omega)];done)|(rw[if_neg (by omega),if_neg (by omega)];done))
def aJ.dn (K:aJ) (k:Int):Int:=if k=0 then K.d0 else if k=1 then K.d1 else if k=2 then K.d2 else K.d3
def oZ (r key:Int) (K:aJ) (way:Int):Int:=
 if¬(way=1\/way=2\/way=4)\/r/way%2=0 then 2
 else if way≠4/\(key<0\/4<=key\/K.dn key/way%2≠0) then 3 else 0
theorem pf2 {r key:Int} {K:aJ} {way:Int} (h:¬(way=1\/way=2\/way=4)\/r/way%2=0):2=oZ r key K way:=by unfold oZ;rw[if_pos h]
theorem pf3 {r key:Int} {K:aJ} {way:Int} (h:way=1\/way=2\/way=4) (hr:r/way%2≠0) (h4:way≠4) (hk:key<0\/4<=key):3=oZ r key K way:=by
 unfold oZ;rw[if_neg (by omega),if_pos ⟨h4,by omega⟩]
theorem aE8 {r key:Int} {K:aJ} {way d:Int} (h:way=1\/way=2\/way=4) (hr:r/way%2≠0) (h4:way≠4) (hd:K.dn key=d) (hk:d/way%2≠0):3=oZ r key K way:=by
 unfold oZ;rw[if_neg (by omega),if_pos ⟨h4,by rw[hd];omega⟩]
theorem aMx {r key:Int} {K:aJ} {way:Int} (h:way=4) (hr:r/way%2≠0):0=oZ r key K way:=by
 unfold oZ;rw[if_neg (by omega),if_neg (by rintro⟨h',_⟩;exact h' h)]
theorem aE9 {r key:Int} {K:aJ} {way d:Int} (h:way=1\/way=2\/way=4) (hr:r/way%2≠0) (hd:K.dn key=d) (hk:0<=key/\key<4) (hz:d/way%2=0):0=oZ r key K way:=by
 unfold oZ;rw[if_neg (by omega),if_neg (by rw[hd];omega)]
theorem aIA (r key:Int) (tg sd:Bool) (K:aJ) (way:Int) (w:World):
 Calls Tryz.prog 163 #[.agg #[.int .i64 r,.int .i64 key,.bool tg,.bool sd],K.v,.int .i64 way] w λe w'=>e=.returned (.int .i64 (oZ r key K way))/\w'=(w.alloc (.cells #[.int .i64 r,.int .i64 key,.bool tg,.bool sd] 97)).alloc (.cells #[.bool K.t0,.int .i64 K.d0,.bool K.t1,.int .i64 K.d1,.bool K.t2,.int .i64 K.d2,.bool K.t3,.int .i64 K.d3] 40):=by
 obtain⟨t0,d0,t1,d1,t2,d2,t3,d3⟩:=K;simp only[aJ.v];by_cases hw:way=1\/way=2\/way=4
 ·by_cases hk:key<0\/4<=key
  ·rcases hw with rfl|rfl|rfl
   all_goals
    go_enter Tryz.func163,Tryz.ntmps163;go_wp2
    all_goals go_ret
    all_goals (refine⟨iR ?_,rfl⟩;(try simp only[beq_iff_eq,beq_eq_false_iff_ne,ne_eq] at*);first|exact pf2 (by omega)|exact pf3 (by omega) (by omega) (by omega) (by omega)|exact aMx (by omega) (by omega))
  ·have hk':key=0\/key=1\/key=2\/key=3:=by omega
   clear hk;rcases hk' with rfl|rfl|rfl|rfl<;>rcases hw with rfl|rfl|rfl
   all_goals
    go_enter Tryz.func163,Tryz.ntmps163;go_wp2
    all_goals go_ret
    all_goals (refine⟨iR ?_,rfl⟩;(try simp only[bne_iff_ne,bne_eq_false_iff_eq,beq_iff_eq,beq_eq_false_iff_ne,ne_eq] at*);first|exact pf2 (by omega)|exact aMx (by omega) (by omega)|exact aE8 (d:=d0) (by omega) (by omega) (by omega) rfl (by omega)|exact aE9 (d:=d0) (by omega) (by omega) rfl (by omega) (by omega)|exact aE8 (d:=d1) (by omega) (by omega) (by omega) rfl (by omega)|exact aE9 (d:=d1) (by omega) (by omega) rfl (by omega) (by omega)|exact aE8 (d:=d2) (by omega) (by omega) (by omega) rfl (by omega)|exact aE9 (d:=d2) (by omega) (by omega) rfl (by omega) (by omega)|exact aE8 (d:=d3) (by omega) (by omega) (by omega) rfl (by omega)|exact aE9 (d:=d3) (by omega) (by omega) rfl (by omega) (by omega))
 ·have w1:(way !=1)=true:=by simp;omega
  have w2:(way !=2)=true:=by simp;omega
  have w4:(way !=4)=true:=by simp;omega
  go_enter Tryz.func163,Tryz.ntmps163;go_wp2
  all_goals go_ret
  all_goals (refine⟨iR ?_,rfl⟩;exact pf2 (Or.inl hw))
end
section
attribute [local go_sem] aNF
def cB (k n:Int):Int:=if k<0\/2<k then 5 else if n<0\/64<=n\/(k=0/\n≠0) then 2 else 0
def dH (k n:Int):Int:=if cB k n=0 then k+256*n else 0
theorem Wi {k n:Int} (h:k<0\/2<k):cB k n=5:=by unfold cB;rw[if_pos h]
theorem Sg {k n:Int} (h:¬(k<0\/2<k)) (h':n<0\/64<=n\/(k=0/\n≠0)):cB k n=2:=by unfold cB;rw[if_neg h,if_pos h']
theorem aB0 {k n:Int} (h:¬(k<0\/2<k)) (h':¬(n<0\/64<=n\/(k=0/\n≠0))):cB k n=0:=by unfold cB;rw[if_neg h,if_neg h']
theorem Kj {k n:Int} (h:cB k n=0):dH k n=k+256*n:=by unfold dH;rw[if_pos h]
theorem Um {k n:Int} (h:cB k n≠0):dH k n=0:=by unfold dH;rw[if_neg h]
theorem pk5 {k n:Int} (h:k<0\/2<k):Ending.returned (.tuple #[.int .i64 0,.int .i64 5])=.returned (.tuple #[.int .i64 (dH k n),.int .i64 (cB k n)]):=
 jQ (Um (by rw[Wi h];decide)).symm (Wi h).symm
theorem pk2 {k n:Int} (h:¬(k<0\/2<k)) (h':n<0\/64<=n\/(k=0/\n≠0)):Ending.returned (.tuple #[.int .i64 0,.int .i64 2])=.returned (.tuple #[.int .i64 (dH k n),.int .i64 (cB k n)]):=
 jQ (Um (by rw[Sg h h'];decide)).symm (Sg h h').symm
theorem pk0 {k n v:Int} (h:¬(k<0\/2<k)) (h':¬(n<0\/64<=n\/(k=0/\n≠0))) (hv:v=k+256*n):Ending.returned (.tuple #[.int .i64 v,.int .i64 0])=.returned (.tuple #[.int .i64 (dH k n),.int .i64 (cB k n)]):=
 jQ (by rw[Kj (aB0 h h'),hv]) (aB0 h h').symm
theorem Ul (k n:Int) (w:World):
 Calls Tryz.prog 174 #[.agg #[.int .i64 k,.int .i64 n]] w λe w'=>e=.returned (.tuple #[.int .i64 (dH k n),.int .i64 (cB k n)])/\w'=w.alloc (.cells #[.int .i64 k,.int .i64 n] 147):=by
 go_enter Tryz.func174,Tryz.ntmps174;go_wp2
 all_goals (try simp only[bne_iff_ne,bne_eq_false_iff_eq,ne_eq] at*)
 all_goals (go_ret2;refine⟨?_,by first|rfl|(rw[show k=0 by omega])|(rw[show k=1 by omega])|(rw[show k=2 by omega])⟩)
 all_goals first
  |exact pk5 (by omega)
  |exact pk2 (by omega) (by omega)
  |(go_unwrap;exact pk0 (by omega) (by omega) (by first|omega|(rw[vK 8 _ _ (by omega) (by omega) (by omega) (by omega) (by omega)];omega)))
def Eh (v:Int):Int:=if cB (v%256) (v/256)=0 then 0 else 1
def Ma (v:Int):Int:=if cB (v%256) (v/256)=0 then v%256 else 0
def Eg (v:Int):Int:=if cB (v%256) (v/256)=0 then v/256 else 0
theorem aKe {v:Int} (h:cB (v%256) (v/256)=0):Eh v=0/\Ma v=v%256/\Eg v=v/256:=by unfold Eh Ma Eg;simp[h]
theorem aNT {v:Int} (h:cB (v%256) (v/256)≠0):Eh v=1/\Ma v=0/\Eg v=0:=by unfold Eh Ma Eg;simp[h]
theorem aEZ (v:Int) (w:World):
 Calls Tryz.prog 161 #[.int .i64 v] w λe w'=>e=.returned (.tuple #[.agg #[.int .i64 (Ma v),.int .i64 (Eg v)],.int .i64 (Eh v)])/\Below w.heap.size w w':=by
 by_cases h:cB (v%256) (v/256)=0
 ·obtain⟨e1,e2,e3⟩:=aKe h
  have hv:=Kj h;have hvv:dH (v%256) (v/256)=v:=by omega
  rw[e1,e2,e3];have t1:(cB (v%256) (v/256) !=0)=false:=by simp[h]
  have t2:(dH (v%256) (v/256) !=v)=false:=by simp[hvv]
  clear h hv hvv e1 e2 e3;go_enter Tryz.func161,Tryz.ntmps161;go_wp2_with(go_at_call 174;refine(Ul _ _ _).mono ?_;rintro e w' ⟨rfl,rfl⟩)
  refine bodyPost_ret (v:=.tuple #[.agg #[.int .i64 (v%256),.int .i64 (v/256)],.int .i64 0]) (by simp[results,Tryz.results161,go_sem]) rfl ⟨rfl,by go_grown⟩
 ·obtain⟨e1,e2,e3⟩:=aNT h
  rw[e1,e2,e3];have hp:=Um h;by_cases hk:cB (v%256) (v/256)=0
  ·exact absurd hk h
  have t1:(cB (v%256) (v/256) !=0)=true:=by simp[h]
  clear h hk e1 e2 e3 hp;go_enter Tryz.func161,Tryz.ntmps161;go_wp2_with(go_at_call 174;refine(Ul _ _ _).mono ?_;rintro e w' ⟨rfl,rfl⟩)
  refine bodyPost_ret (v:=.tuple #[.agg #[.int .i64 0,.int .i64 0],.int .i64 1]) (by simp[results,Tryz.results161,go_sem]) rfl ⟨rfl,by go_grown⟩
end
end Go.Proofs.YtoogfmbojlpjaaaGreat
