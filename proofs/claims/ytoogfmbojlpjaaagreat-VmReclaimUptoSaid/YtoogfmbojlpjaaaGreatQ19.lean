/- Lemmas. -/
import Derived.Test.YtoogfmbojlpjaaaGreatQ5
import Derived.Deep.MidRow
import Derived.Deep.WholeRow
import Derived.Laws.ResultCell
import Derived.Laws.CopyOwn
import Derived.Test.YtoogfmbojlpjaaaGreatQA
set_option maxRecDepth 100000
set_option maxHeartbeats 32000000
set_option linter.unusedVariables false
set_option linter.unusedSimpArgs false
namespace Go.Proofs.YtoogfmbojlpjaaaGreat
open Go.ChangeShapes Go.WideShapes Go.ChangeAt Go.RowKit Go.Joins
section
def Bx (w:World) (g:Nat) (T:TypeId) (cs:Array Value):Prop:=w.heap[g]? =some (.cells cs T (0,0))
theorem Bx.lt {w:World} {g:Nat} {T:TypeId} {cs:Array Value} (h:Bx w g T cs):g<w.heap.size:=kM h
theorem Bx.new (w:World) (T:TypeId) (cs:Array Value):Bx (w.alloc (.cells cs T)) w.heap.size T cs:=heap_alloc_last w _
theorem Bx.below {w w':World} {g:Nat} {T:TypeId} {cs:Array Value} (h:Bx w g T cs) (hb:Below w.heap.size w w'):Bx w' g T cs:=(hb.block g h.lt).trans h
theorem Bx.cell {w:World} {g:Nat} {T:TypeId} {cs:Array Value} (h:Bx w g T cs) (i:Nat):w.cell? ⟨g,i,none⟩=cs[i]? :=dW h i
theorem Bx.free {w:World} {g:Nat} {T:TypeId} {cs:Array Value} (h:Bx w g T cs) (i:Nat):w.frozen? ⟨g,i,none⟩=false:=gQ h i
theorem Bx.set {w:World} {g:Nat} {T:TypeId} {cs:Array Value} (h:Bx w g T cs) (i:Nat) (v:Value):Bx (w.setCell ⟨g,i,none⟩ v) g T (cs.setIfInBounds i v):=by
 unfold Bx at*;simp[World.setCell,Array.getElem?_modify,h]
theorem Bx.other {w:World} {g:Nat} {T:TypeId} {cs:Array Value} (h:Bx w g T cs) {q:Nat} (hq:¬g=q) (i:Nat) (v:Value):Bx (w.setCell ⟨q,i,none⟩ v) g T cs:=(Below.heap_setCell w ⟨q,i,none⟩ v g hq).trans h
theorem Bx.row {w:World} {g:Nat} {T:TypeId} {cs:Array Value} (h:Bx w g T cs) (cs':Array Value):Bx (w.setRow g cs') g T cs':=setRow_heap w g cs cs' T (0,0) h
theorem Bx.kQ {w:World} {g:Nat} {T:TypeId} {cs:Array Value} (h:Bx w g T cs) {q:Nat} (hq:¬g=q) (cs':Array Value):Bx (w.setRow q cs') g T cs:=(setRow_other w q g cs' hq).trans h
theorem aD (w:World) (o:Obj):Below w.heap.size w (w.alloc o):=(Below.refl _ _).alloc (nR _) _
def Sub (cs:Array Value) (o:Nat) (rs:Array Value):Prop:=∀(i:Nat) (v:Value),rs[i]? =some v->cs[o+i]? =some v
theorem Sub.all (cs:Array Value):Sub cs 0 cs:=λi v h=>by rw[Nat.zero_add];exact h
section
variable {P:Program} {ops:Array Oper} {rest:List Oper} {dst:Option Tmp} {x y:Operand} {type:TypeId} {pos:String} {after:Array Edge} {guard:Option (Nat×Bool)} {a:Act} {w:World} {Q:Exit->Act->World->Prop}
theorem lN {t T:TypeId} {n:Nat} {d:TypeDesc} (hu:P.underlying t=some d) (hd:d.isRow=true) (hi:(P.info? t).map (·.size)=some n) {cs:Array Value} {g o:Nat} {rs:Array Value} (hc:Bx w g T cs) (hr:Sub cs o rs) (hn:rs.size=n):(Instr.loadAt t (.pointer (some ⟨g,o,none⟩))).run P w=.ok (.agg rs) w:=by
 have:=run_loadAt_mid (P:=P) w g o t rs.toList d (λj v hv=>by rw[hc.cell];exact hr j v (by simpa using hv)) hu hd (by rw[hi,Array.length_toList,hn]);rwa[Array.toArray_toList] at this
theorem Yy {t T:TypeId} {n:Nat} {d:TypeDesc} (hu:P.underlying t=some d) (hd:d.isRow=true) (hi:(P.info? t).map (·.size)=some n) {cs:Array Value} {g o:Nat} {rs:Array Value} (hc:Bx w g T cs) (hr:Sub cs o rs) (hn:rs.size=n):(loadVar t ⟨g,o,none⟩).run P w=.ok (.agg rs) w:=by
 have:=run_loadVar_mid (P:=P) w g o t rs.toList d (λj v hv=>by rw[hc.cell];exact hr j v (by simpa using hv)) hu hd (by rw[hi,Array.length_toList,hn]);rwa[Array.toArray_toList] at this
theorem qW {t T:TypeId} {n:Nat} {d:TypeDesc} (hu:P.underlying t=some d) (hd:d.isRow=true) (hi:(P.info? t).map (·.size)=some n) {cs:Array Value} (g o:Nat) (rs:Array Value) (hx:a.eval x=.pointer (some ⟨g,o,none⟩)) (hw:Region.wanted ⟨dst,.load t x,type,pos,after,guard⟩ (yielded ops a.tmps)=true) (hc:Bx w g T cs) (hr:Sub cs o rs) (hn:rs.size=n)
 (h:wpList P ops Q rest (a.put dst (.agg rs)) w):wpList P ops Q (⟨dst,.load t x,type,pos,after,guard⟩::rest) a w:=by
 have h':wpList P ops Q rest (a.put dst (.agg rs.toList.toArray)) w:=by simpa using h
 refine wpList_step λK hK=> ?_;simp only[hw,if_true];exact wp_load_mid t x rfl g o hx rs.toList _ (λj v hv=>by rw[hc.cell];exact hr j v (by simpa using hv)) hu hd (by rw[hi,Array.length_toList,hn]) (hK _ _ h')
theorem uM {t:TypeId} {n:Nat} (hi:(P.info? t).map (·.size)=some n) {W:World} {c:Array Value} (cs:Array Value) (hx:a.eval x=.pointer (some ⟨W.heap.size,0,none⟩)) (hy:a.eval y=.agg cs) (hc:c.size=n) (hn:cs.size=n) (h1:cs.all (·.oneCell')=true)
 (h:wpList P ops Q rest (a.put dst undef) (W.alloc (.cells cs t))):wpList P ops Q (⟨dst,.store t x y,type,pos,after,none⟩::rest) a (W.alloc (.cells c t)):=by
 refine wpList_plain rfl λK hK=> ?_;unfold Oper.wp execOp;simp only[hx,hy,run_storeAt_new W t c cs (by rw[hi,hn]) (by rw[hc,hn]) h1,Sem.run_bind,Sem.run_pure,Result.andThen_ok];exact hK _ _ h
theorem fM {t:TypeId} {n:Nat} (hi:(P.info? t).map (·.size)=some n) (g:Nat) {z:Array Value} (cs:Array Value) (hx:a.eval x=.pointer (some ⟨g,0,none⟩)) (hy:a.eval y=.agg cs) (hz:Bx w g t z) (hs:z.size=n) (hn:cs.size=n) (h1:cs.all (·.oneCell')=true)
 (h:wpList P ops Q rest (a.put dst undef) (w.setRow g cs)):wpList P ops Q (⟨dst,.store t x y,type,pos,after,none⟩::rest) a w:=by
 refine wpList_plain rfl λK hK=> ?_;unfold Oper.wp execOp;simp only[hx,hy,Instr.storeAt,Instr.sureAddr,Sem.run_bind,Sem.run_pure,Result.andThen_ok,run_storeVar_row w g t t z cs hz (by rw[hi,hn]) (by rw[hs,hn]) h1];exact hK _ _ h
end
end
end Go.Proofs.YtoogfmbojlpjaaaGreat
