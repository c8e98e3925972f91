/- Lemmas. -/
import Derived.Test.YtoogfmbojlpjaaaGreatQ44
import Derived.Deep.WholeRow
import Derived.Test.YtoogfmbojlpjaaaGreatQA
set_option maxRecDepth 100000
set_option maxHeartbeats 32000000
set_option linter.unusedVariables false
set_option linter.unusedSimpArgs false
namespace Go.Proofs.YtoogfmbojlpjaaaGreat
open Go.ChangeShapes Go.WideShapes Go.ChangeAt Go.RowKit Go.Joins
theorem aFF (b1 b2:Nat) (r k:Int) (w:World) (base:Nat) (hb1:b1<base) (hb2:b2<base) (hbs:base<=w.heap.size) (hc1:w.cell? ⟨b1,0,none⟩=some (.int .i64 r)) (hc2:w.cell? ⟨b2,0,none⟩=some (.int .i64 k)):aJ6 146 #[.pointer (some ⟨b1,0,none⟩),.pointer (some ⟨b2,0,none⟩)] (λa=>⟨r,k,a.g,a.s⟩) base w:=by
 intro W a hW;have c1:W.cell? ⟨b1,0,none⟩=some (.int .i64 r):=(hW.cell (p:=⟨b1,0,none⟩) hb1).trans hc1;have c2:W.cell? ⟨b2,0,none⟩=some (.int .i64 k):=(hW.cell (p:=⟨b2,0,none⟩) hb2).trans hc2;have l1:b1<W.heap.size:=Nat.lt_of_lt_of_le hb1 (Nat.le_trans hbs hW.size);have l2:b2<W.heap.size:=Nat.lt_of_lt_of_le hb2 (Nat.le_trans hbs hW.size);clear hc1 hc2;go_enter Tryz.func146,Tryz.ntmps146;go_wp2
 go_region
 go_wp2;try simp only[Exit.inBlock,Exit.then]
 refine bodyPost_ret (v:=.agg #[.int .i64 r,.int .i64 k,.bool a.g,.bool a.s]) (by simp[results,Tryz.results146,go_sem]) rfl ⟨rfl,?_⟩;exact(((Below.refl _ _).alloc (nR _) _).alloc (by simp) _).drew
theorem Q0 (A:Option Addr) (n c:Nat) (xs:List aC) (a b r k:Int) (w:World) (B:Nat) (hz:Rw fR 6 w B A n xs) (hB:B<=w.heap.size) (hbig:n<=140737488355328):
 Calls Tryz.prog 101 #[.slice A n c,.int .i64 a,.int .i64 b,.int .i64 r,.int .i64 k] w (TR (dY xs a b λa=>⟨r,k,a.g,a.s⟩) (dP xs a b) w):=by
 have HW0:=hZ (((Below.refl w.heap.size w).alloc (nR _) (.cells #[.int .i64 r] 3)).alloc (by simp) (.cells #[.int .i64 k] 3));have hf:=aFF w.heap.size (w.heap.size+1) r k ((w.alloc (.cells #[.int .i64 r] 3)).alloc (.cells #[.int .i64 k] 3)) (w.heap.size+2) (by omega) (by omega) (by simp) (by
  rw[((Below.refl (w.alloc (.cells #[.int .i64 r] 3)).heap.size (w.alloc (.cells #[.int .i64 r] 3))).alloc (nR _) (.cells #[.int .i64 k] 3)).cell (p:=⟨w.heap.size,0,none⟩) (by simp)];rw[dW (heap_alloc_last w _)];rfl) (by
  have h:=heap_alloc_last (w.alloc (.cells #[.int .i64 r] 3)) (.cells #[.int .i64 k] 3);rw[World.size_alloc] at h;rw[dW h];rfl)
 have hcall:=aBs _ _ (enters_of Tryz.func146 (by kernel_rfl) rfl) _ A n c xs a b _ B _ (hz.below (HW0.out.mono hB)) (Nat.le_trans hB HW0.out.size) (by simp) hbig hf;generalize dY xs a b (λa=>⟨r,k,a.g,a.s⟩)=tl at*;generalize dP xs a b=tE at*;clear hz hf;go_enter Tryz.func101,Tryz.ntmps101;go_wp2_with(go_at_call 144;refine hcall.mono ?_;rintro e w1 ⟨v1,rfl,ho1,hb1⟩)
 go_ret2
 exact TR.on ⟨_,rfl,ho1,hb1⟩ HW0.out
end Go.Proofs.YtoogfmbojlpjaaaGreat
