/- Lemmas. -/
import Derived.Test.YtoogfmbojlpjaaaGreatQ2
import Derived.Laws.MakeOwn
import Derived.Test.YtoogfmbojlpjaaaGreatQA
set_option maxRecDepth 100000
set_option maxHeartbeats 32000000
set_option linter.unusedVariables false
set_option linter.unusedSimpArgs false
namespace Go.Proofs.YtoogfmbojlpjaaaGreat
open Go.ChangeShapes Go.WideShapes Go.ChangeAt Go.RowKit Go.Joins
section
def Rw {α:Type} (f:α->List Value) (sz:Nat) (w:World) (B:Nat) (A:Option Addr) (n:Nat) (xs:List α):Prop:=
 xs.length=n/\n<=maxLen/\(0<n->∃b off,A=some ⟨b,off,none⟩/\b<B/\∀i x,xs[i]? =some x->∀j v,(f x)[j]? =some v->w.cell? ⟨b,off+i*sz+j,none⟩=some v)
def Ow {α:Type} (f:α->List Value) (sz:Nat) (T:TypeId) (w:World) (base:Nat) (A:Option Addr) (n c:Nat) (xs:List α):Prop:=
 xs.length=n/\n<=c/\c<=maxLen/\(0<n->∃g cur,A=some ⟨g,0,none⟩/\base<=g/\w.heap[g]? =some (.cells cur T (0,0))/\∀i x,xs[i]? =some x->∀j v,(f x)[j]? =some v->cur[i*sz+j]? =some v)
section
variable {α:Type} {f:α->List Value} {sz:Nat} {w w':World} {B B' base:Nat} {A:Option Addr} {n c:Nat} {xs:List α} {T:TypeId}
theorem Rw.below (h:Rw f sz w B A n xs) (hb:Below B w w'):Rw f sz w' B A n xs:=
 ⟨h.1,h.2.1,λhn=>by
   obtain⟨b,off,e,hB,hc⟩:=h.2.2 hn;exact⟨b,off,e,hB,λi x hx j v hv=>(hb.cell (p:=⟨b,off+i*sz+j,none⟩) hB).trans (hc i x hx j v hv)⟩⟩
theorem Rw.any (h:Rw f sz w B A n xs) (hB:B<=B'):Rw f sz w B' A n xs:=
 ⟨h.1,h.2.1,λhn=>by obtain⟨b,off,e,hb,hc⟩:=h.2.2 hn;exact⟨b,off,e,by omega,hc⟩⟩
theorem Rw.on (h:Rw f sz w B A n xs) (hb:Below w.heap.size w w') (hB:B<=w.heap.size):Rw f sz w' w'.heap.size A n xs:=
 (h.below (hb.mono hB)).any (Nat.le_trans hB hb.size)
theorem Rw.nil:Rw f sz w B A 0 []:=⟨rfl,by simp,λh=>absurd h (by omega)⟩
theorem Ow.below (h:Ow f sz T w base A n c xs) (hb:Below B w w') (hB:w.heap.size<=B):Ow f sz T w' base A n c xs:=
 ⟨h.1,h.2.1,h.2.2.1,λhn=>by
   obtain⟨g,cur,e,hg,hh,hc⟩:=h.2.2.2 hn;exact⟨g,cur,e,hg,(hb.block g (Nat.lt_of_lt_of_le (kM hh) hB)).trans hh,hc⟩⟩
theorem Ow.row (h:Ow f sz T w base A n c xs):Rw f sz w w.heap.size A n xs:=
 ⟨h.1,Nat.le_trans h.2.1 h.2.2.1,λhn=>by
   obtain⟨g,cur,e,hg,hh,hc⟩:=h.2.2.2 hn;exact⟨g,0,e,kM hh,λi x hx j v hv=>by rw[dW hh,Nat.zero_add];exact hc i x hx j v hv⟩⟩
theorem Ow.nil:Ow f sz T w base A 0 0 []:=⟨rfl,nR _,by simp,λh=>absurd h (by omega)⟩
theorem iV (hf:∀x,(f x).length=sz):∀xs:List α,(xs.flatMap f).length=xs.length*sz
 | []=>by simp
 |x::xs=>by rw[List.flatMap_cons,List.length_append,hf,iV hf xs,List.length_cons,Nat.succ_mul];omega
theorem vM (hf:∀x,(f x).length=sz):∀(xs:List α) (i:Nat) (x:α),xs[i]? =some x->∀j,j<sz->(xs.flatMap f)[i*sz+j]? =(f x)[j]?
 | [],i,x,h,j,_=>by simp at h
 |y::xs,0,x,h,j,hj=>by
  simp at h;subst h;rw[List.flatMap_cons,Nat.zero_mul,Nat.zero_add,List.getElem?_append_left (by rw[hf];exact hj)]
 |y::xs,i+1,x,h,j,hj=>by
  rw[List.flatMap_cons,List.getElem?_append_right (by rw[hf,Nat.succ_mul];omega),hf,show(i+1)*sz+j -sz=i*sz+j by rw[Nat.succ_mul];omega];exact vM hf xs i x (by simpa using h) j hj
theorem aCQ (hf:∀x,(f x).length=sz) (hs:0<sz) (xs:List α) (m:Nat) (v:Value) (h:(xs.flatMap f)[m]? =some v):∃x,xs[m/sz]? =some x/\(f x)[m%sz]? =some v:=by
 have hm:m<xs.length*sz:=by
  have:=(List.getElem?_eq_some_iff.1 h).1;rwa[iV hf] at this
 have hi:m/sz<xs.length:=(Nat.div_lt_iff_lt_mul hs).2 hm;refine⟨xs[m/sz],List.getElem?_eq_getElem hi,?_⟩;rw[<-vM hf xs (m/sz) _ (List.getElem?_eq_getElem hi) (m%sz) (Nat.mod_lt _ hs),Nat.div_add_mod'];exact h
theorem Ow.Ov (hf:∀x,(f x).length=sz) (hs:0<sz) {v:Value} (h:w.ownsRow base T sz v n (xs.flatMap f)):∃A c,v=.slice A n c/\Ow f sz T w base A n c xs:=by
 obtain⟨hl,h|⟨g,cap,cur,rfl,hg,hh,hn,hm,hz,hx⟩⟩:=h
 ·obtain⟨rfl,rfl⟩:=h
  have:xs.length=0:=by
   rw[iV hf,Nat.zero_mul] at hl;rcases Nat.mul_eq_zero.1 hl with h|h
   ·exact h
   ·omega
  obtain rfl:=List.eq_nil_of_length_eq_zero this;exact⟨none,0,rfl,Ow.nil⟩
 ·have hln:xs.length=n:=by
   rw[iV hf] at hl;exact Nat.eq_of_mul_eq_mul_right hs hl
  refine⟨_,cap,rfl,hln,hn,hm,λ_=>⟨g,cur,rfl,hg,hh,λi x hix j v hv=> ?_⟩⟩;have hj:j<sz:=by have:=(List.getElem?_eq_some_iff.1 hv).1;rwa[hf] at this
  have hi:i<xs.length:=(List.getElem?_eq_some_iff.1 hix).1;have e1:(cur.toList.take (n*sz))[i*sz+j]? =some v:=by rw[hx,vM hf xs i x hix j hj];exact hv
  rw[List.getElem?_take] at e1;have hlt:i*sz+j<n*sz:=by
   have:(i+1)*sz<=n*sz:=Nat.mul_le_mul_right _ (by omega);rw[Nat.succ_mul] at this;omega
  rw[if_pos hlt] at e1;simpa using e1
theorem Rw.cells (hf:∀x,(f x).length=sz) (hs:0<sz) {x:Addr} (h:Rw f sz w B (some x) n xs):(xs.flatMap f).length=n*sz/\∀j u,(xs.flatMap f)[j]? =some u->w.cell? (x.add j)=some u:=by
 refine⟨by rw[iV hf,h.1],λj u hj=> ?_⟩;obtain⟨y,h1,h2⟩:=aCQ hf hs xs j u hj;have hi:j/sz<xs.length:=(List.getElem?_eq_some_iff.1 h1).1;obtain⟨b,off,e,_,hc⟩:=h.2.2 (by rw[<-h.1];exact Nat.lt_of_le_of_lt (Nat.zero_le _) hi);injection e with e;subst e;have:=hc _ y h1 _ u h2;rw[Addr.add_lit];rwa[Nat.add_assoc,Nat.div_add_mod'] at this
theorem Ow.set1 {g i:Nat} {x y:α} {fv:α->Value} (h:Ow (λx=>[fv x]) 1 T w base (some ⟨g,0,none⟩) n c xs) (hi:xs[i]? =some x):Ow (λx=>[fv x]) 1 T (w.setCell ⟨g,i,none⟩ (fv y)) base (some ⟨g,0,none⟩) n c (xs.set i y):=by
 obtain⟨h1,h2,h3,h4⟩:=h;refine⟨by simpa using h1,h2,h3,λhn=> ?_⟩;obtain⟨g',cur,e,hg,hh,hc⟩:=h4 hn;injection e with e;injection e with e;subst e;refine⟨g,cur.setIfInBounds i (fv y),rfl,hg,?_,λk z hz j v hv=> ?_⟩
 ·simp[World.setCell,Array.getElem?_modify,hh]
 ·have hsz:i<cur.size:=by
   have:=hc i x hi 0 (fv x) rfl;simp only[Nat.mul_one,Nat.add_zero] at this;exact(Array.getElem?_eq_some_iff.1 this).1
  have hj:j=0:=by
   have:=(List.getElem?_eq_some_iff.1 hv).1;simpa using this
  subst hj;simp only[List.getElem?_cons_zero,Option.some.injEq] at hv;simp only[Nat.mul_one,Nat.add_zero];by_cases e:k=i
  ·subst e
   have hk:k<xs.length:=(List.getElem?_eq_some_iff.1 hi).1;rw[List.getElem?_set_self hk] at hz;cases hz;rw[Array.getElem?_setIfInBounds_self_of_lt hsz,hv]
  ·rw[List.getElem?_set_ne (λh=>e h.symm)] at hz
   rw[Array.getElem?_setIfInBounds_ne (λh=>e h.symm)];have:=hc k z hz 0 (fv z) rfl;simp only[Nat.mul_one,Nat.add_zero] at this;rw[this,hv]
end
end
end Go.Proofs.YtoogfmbojlpjaaaGreat
