/- Lemmas. -/
import Derived.Test.YtoogfmbojlpjaaaGreatQ10
import Derived.Test.YtoogfmbojlpjaaaGreatQ19
import Derived.Test.YtoogfmbojlpjaaaGreatQA
set_option maxRecDepth 100000
set_option maxHeartbeats 32000000
set_option linter.unusedVariables false
set_option linter.unusedSimpArgs false
namespace Go.Proofs.YtoogfmbojlpjaaaGreat
open Go Go.RowKit Go.Sort
section
section
variable {P:Program} {ops:Array Oper} {M:World->World->Prop}
variable {T:List (List Nat)} {S:List (dK M)} {w0:World} {V:Nat->Value} {Q:Act->World->Prop} {rest:List Oper} {k:Nat} {G:List (Nat×(World->Prop))} {a:Act} {o:Oper}
theorem aE6 (hk:kV S k=none) (hh:Bt o.op=true) (h:wpQuiet P ops (λw'=>∃p:Regrown,w'=grow (redrawn w0 p.d) p.os) (λa'=>gB P ops T S w0 V Q rest (k+1) G a') [o] a):gB P ops T S w0 V Q (o::rest) k G a:=by
 unfold wpQuiet at h;unfold gB;by_cases hw:Region.wanted o (yielded ops a.tmps)=true
 ·rw[if_pos hw] at h⊢
  rw[hk];obtain⟨v,h1,h2⟩:=h;exact⟨v,λw hb _=>wJ hh (h1 w (regrown_of_below hb)),h2⟩
 ·rw[if_neg hw] at h⊢
  exact h
theorem aGX (v:Value) {dst:Option Tmp} {op:Op} {type:TypeId} {pos:String} {after:Array Edge} {guard:Option (Nat×Bool)} (hw:Region.wanted ⟨dst,op,type,pos,after,guard⟩ (yielded ops a.tmps)=true) (hk:kV S k=none)
 (h1:∀w,Below w0.heap.size w0 w->(∀p∈G,aW T k p.1=true->p.2 w)->(execOp a.eval ⟨dst,op,type,pos,after,guard⟩).run P w=.ok (.value v) w)
 (h:wpQuiet P ops (λw'=>∃p:Regrown,w'=grow (redrawn w0 p.d) p.os) (λa'=>gB P ops T S w0 V Q rest (k+1) G a') [⟨dst,.move (.const v),type,pos,after,none⟩] a):gB P ops T S w0 V Q (⟨dst,op,type,pos,after,guard⟩::rest) k G a:=by
 unfold gB;rw[if_pos hw,hk];exact⟨v,λw hb hf=>.inl (h1 w hb hf),z8 h⟩
theorem aBZ (s:dK M) {dst:Option Tmp} {op:Op} {type:TypeId} {pos:String} {after:Array Edge} {guard:Option (Nat×Bool)} (hw:Region.wanted ⟨dst,op,type,pos,after,guard⟩ (yielded ops a.tmps)=true) (hk:kV S k=some s)
 (h1:∀w,Below w0.heap.size w0 w->(∀p∈G,aW T k p.1=true->p.2 w)->gG M P ⟨dst,op,type,pos,after,guard⟩ a w λv w'=>s.shape v/\s.fact (mX V s) v w')
 (h:wpQuiet P ops (λw'=>∃p:Regrown,w'=grow (redrawn w0 p.d) p.os) (λa'=>gB P ops T S w0 V Q rest (k+1) ((k,s.fact (mX V s) (V k))::G) a') [⟨dst,.move (.const (V k)),type,pos,after,none⟩] a):gB P ops T S w0 V Q (⟨dst,op,type,pos,after,guard⟩::rest) k G a:=by
 unfold gB;rw[if_pos hw,hk];exact⟨h1,z8 h⟩
theorem oD {w w':World} {v:Value} {Φ:Value->World->Prop} (h:(execOp a.eval o).run P w=.ok (.value v) w') (hb:M w w') (hf:Φ v w'):gG M P o a w Φ:=by
 unfold gG;rw[h];exact⟨hb,hf⟩
theorem pU {w:World} {f:FuncId} {args:Array Value} {Φ:Value->World->Prop} (h:(execOp a.eval o).run P w=.ok (.enter f args) w)
 (hc:Calls P f args w λe w''=>∃v,e=.returned v/\M w w''/\Φ v w''):gG M P o a w Φ:=by
 unfold gG;rw[h];exact hc
theorem oF {t:TypeId} {n:Nat} {x y:Operand} {dst:Option Tmp} {type:TypeId} {pos:String} {after:Array Edge} {guard:Option (Nat×Bool)} {w:World} {Φ:Value->World->Prop} (hi:(P.info? t).map (·.size)=some n) (g:Nat) {z:Array Value} (cs:Array Value) (hx:a.eval x=.pointer (some ⟨g,0,none⟩)) (hy:a.eval y=.agg cs) (hz:Bx w g t z) (hs:z.size=n) (hn:cs.size=n) (h1:cs.all (·.oneCell')=true)
 (hM:M w (w.setRow g cs)) (hf:Φ undef (w.setRow g cs)):gG M P ⟨dst,.store t x y,type,pos,after,guard⟩ a w Φ:=by
 unfold gG execOp;simp only[hx,hy,Instr.storeAt,Instr.sureAddr,Sem.run_bind,Sem.run_pure,Result.andThen_ok,run_storeVar_row w g t t z cs hz (by rw[hi,hn]) (by rw[hs,hn]) h1];exact⟨hM,hf⟩
theorem Vr {id:Nat} {Q:Exit->Act->World->Prop} {a:Act} {w:World} {l:List Oper} (M:World->World->Prop) (S:List (dK M)) (hm:P.follows .mixedOrders=true) (hM:xC M w) (hB:yF l.toArray (ahead l.toArray l.length)=true) (hd:Xn l.toArray S (ahead l.toArray l.length)=true)
 (h:∀V:Nat->Value,(∀k,kW S k (V k))->gB P l.toArray (ahead l.toArray l.length) S w V (Q .normal) l 0 [] a):(Code.region id l.toArray true).wp P Q a w:=Yp S _ hm hM hd hB h
end
def H8 (B:Nat) (L:List (TypeId×Array Value)) (w w':World):Prop:=
 Below w.heap.size w w'\/∃b T cs z,(T,cs)∈L/\B<=b/\Bx w b T z/\z.size=cs.size/\w'=w.setRow b cs
theorem Lf {w0:World} {B:Nat} {L:List (TypeId×Array Value)} (hB:w0.heap.size<=B):xC (H8 B L) w0:=
 ⟨λw=>.inl (Below.refl _ _),λw w' h hs=>by
   rcases hs with hs|⟨b,T,cs,z,_,hb,_,_,rfl⟩
   ·exact h.trans (hs.mono h.size)
   ·exact below_setRow h (by omega) _⟩
theorem Zn {w:World} {b:Nat} {T T':TypeId} {z z':Array Value} (h:Bx w b T z) (h':Bx w b T' z'):T=T'/\z=z':=by
 unfold Bx at h h';rw[h] at h';injection h' with h';injection h' with e1 e2;exact⟨e2,e1⟩
def dK.call {B:Nat} {L:List (TypeId×Array Value)} (k:Nat) (v:Value):dK (H8 B L):=⟨k,none,λu=>u=v,λ_ _ _=>True,⟨v,rfl⟩,λ_ _ _ _ h _=>h⟩
theorem Jn {P:Program} {B:Nat} {L:List (TypeId×Array Value)} {o:Oper} {a:Act} {w:World} {f:FuncId} {args:Array Value} {v:Value} {u:Value} {k:Nat} (h:(execOp a.eval o).run P w=.ok (.enter f args) w) (hc:Calls P f args w λe w'=>e=.returned v/\Below w.heap.size w w'):gG (H8 B L) P o a w λx w'=>(dK.call (B:=B) (L:=L) k v).shape x/\(dK.call (B:=B) (L:=L) k v).fact u x w':=
 pU h (hc.mono λe w' h=>⟨v,h.1,.inl h.2,rfl,trivial⟩)
def dK.box {B:Nat} {L:List (TypeId×Array Value)} (k:Nat) (T:TypeId) (n:Nat) (hL:∀cs,(T,cs)∈L->cs.size=n):dK (H8 B L):=
 ⟨k,none,λu=>∃b,u=.pointer (some ⟨b,0,none⟩),λ_ v w=>∃b z,v=.pointer (some ⟨b,0,none⟩)/\B<=b/\Bx w b T z/\z.size=n,⟨.pointer (some ⟨0,0,none⟩),0,rfl⟩,λu v w w' h hs=>by
   obtain⟨b,z,e,hB,hx,hz⟩:=h;rcases hs with hs|⟨b',T',cs,z',hl,_,hx',hz',rfl⟩
   ·exact⟨b,z,e,hB,hx.below hs,hz⟩
   ·by_cases eb:b=b'
    ·subst eb
     obtain⟨rfl,rfl⟩:=Zn hx hx';exact⟨b,cs,e,hB,hx.row cs,hL cs hl⟩
    ·exact⟨b,z,e,hB,hx.kQ eb cs,hz⟩⟩
def dK.st {B:Nat} {L:List (TypeId×Array Value)} (k d:Nat) (T:TypeId) (cs:Array Value) (hL:∀cs',(T,cs')∈L->cs'=cs):dK (H8 B L):=
 ⟨k,some d,λu=>u=undef,λu _ w=>∃b,u=.pointer (some ⟨b,0,none⟩)/\Bx w b T cs,⟨undef,rfl⟩,λu v w w' h hs=>by
   obtain⟨b,e,hx⟩:=h;rcases hs with hs|⟨b',T',cs',z',hl,_,hx',hz',rfl⟩
   ·exact⟨b,e,hx.below hs⟩
   ·by_cases eb:b=b'
    ·subst eb
     obtain⟨rfl,rfl⟩:=Zn hx hx';rw[hL cs' hl];exact⟨b,e,hx.row cs⟩
    ·exact⟨b,e,hx.kQ eb cs'⟩⟩
end
end Go.Proofs.YtoogfmbojlpjaaaGreat
