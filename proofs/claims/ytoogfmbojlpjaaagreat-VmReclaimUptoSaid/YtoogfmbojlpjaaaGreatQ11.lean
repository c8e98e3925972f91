/- Lemmas. -/
import Derived.Test.YtoogfmbojlpjaaaGreatQ8
import Derived.Test.YtoogfmbojlpjaaaGreatQ10
import Derived.Test.YtoogfmbojlpjaaaGreatQ6
import Derived.Test.YtoogfmbojlpjaaaGreatQA
set_option maxRecDepth 100000
set_option maxHeartbeats 32000000
set_option linter.unusedVariables false
set_option linter.unusedSimpArgs false
namespace Go.Proofs.YtoogfmbojlpjaaaGreat
open Go.ChangeShapes Go.WideShapes Go.ChangeAt Go.RowKit Go.Joins Go.Sort
theorem Yt {o:Int} (h0:0<=o) (h6:o<=6):(o=0/\aX o=1)\/(o=1/\aX o=2)\/(o=2/\aX o=4)\/(o=3/\aX o=8)\/(o=4/\aX o=16)\/(o=5/\aX o=32)\/(o=6/\aX o=64):=by
 have:o=0\/o=1\/o=2\/o=3\/o=4\/o=5\/o=6:=by omega
 rcases this with e|e|e|e|e|e|e<;>rw[e]<;>simp[aX]
theorem I1 {o:Int} (h0:0<=o) (h6:o<=6):1<=aX o/\aX o<=64:=by
 have:=Yt h0 h6;omega
theorem wS (o:Int) (h0:0<=o) (h6:o<=6) (w:World):Calls Tryz.prog 171 #[.int .i64 o] w λe w'=>e=.returned (.int .i64 (aX o))/\w'=w:=by
 rcases Yt h0 h6 with⟨rfl,e⟩|⟨rfl,e⟩|⟨rfl,e⟩|⟨rfl,e⟩|⟨rfl,e⟩|⟨rfl,e⟩|⟨rfl,e⟩<;>rw[e]<;>clear e h0 h6
 all_goals
  go_enter Tryz.func171,Tryz.ntmps171;go_wp2;go_ret;exact⟨rfl,rfl⟩
theorem nQ {f:FuncId} {args:Array Value} {v:Value} {w:World} {n:Nat} (h:∀w,Calls Tryz.prog f args w λe w'=>e=.returned v/\w'=w):Calls Tryz.prog f args (w.drewN n) λe w''=>e=.returned v/\∃m,w''=w.drewN m:=Calls.quiet_of_same (h _)
theorem aCR (b:aH) (hb:b.fits) (w:World):Calls Tryz.prog 176 #[.agg #[.int .i64 b.a,.int .i64 b.o]] w λe w'=>e=.returned (.bool (okB b))/\Below w.heap.size w w':=by
 have lH:Hid (okB b=(decide (0<=b.o)&&decide (b.o<=6)&&decide (0<=b.a)&&decide (b.a<=64 -aX b.o)&&decide (b.a%aX b.o=0))):=hZ rfl;obtain⟨a,o⟩:=b;generalize okB ⟨a,o⟩=res at*;simp only at lH;have hB:=(Below.refl w.heap.size w).alloc (nR _) (.cells #[.int .i64 a,.int .i64 o] 184);have Jv:=hZ (λn=>hB.trans (below_drewN w.heap.size _ n));clear hB hb;by_cases h1:o<0
 ·have HR:Hid (res=false):=hZ (by rw[lH.out];simp;omega)
  clear lH;have hd:decide (0<=o)=false:=by simp;omega
  go_enter Tryz.func176,Tryz.ntmps176;go_wp2
  go_quiet (fail)
  go_wp2;go_ret;exact⟨bH HR.out.symm,Jv.out _⟩
 have h1':0<=o:=by omega
 by_cases h2:6<o
 ·have HR:Hid (res=false):=hZ (by rw[lH.out];simp;omega)
  clear lH;have hd:decide (o<=6)=false:=by simp;omega
  go_enter Tryz.func176,Tryz.ntmps176;go_wp2
  go_quiet (fail)
  go_wp2;go_ret;exact⟨bH HR.out.symm,Jv.out _⟩
 have h2':o<=6:=by omega
 by_cases h3:a<0
 ·have HR:Hid (res=false):=hZ (by rw[lH.out];simp;omega)
  clear lH;have hd:decide (0<=a)=false:=by simp;omega
  go_enter Tryz.func176,Tryz.ntmps176;go_wp2
  go_quiet (fail)
  go_wp2;go_ret;exact⟨bH HR.out.symm,Jv.out _⟩
 have h3':0<=a:=by omega
 have hs:=wS o h1' h2';obtain⟨s1,s2⟩:=I1 h1' h2';have hsn:¬aX o=0:=by omega
 by_cases h4:64 -aX o<a
 ·have HR:Hid (res=false):=hZ (by rw[lH.out];simp;omega)
  clear lH;generalize aX o=s at*;have hd:decide (a<=64 -s)=false:=by simp;omega
  go_enter Tryz.func176,Tryz.ntmps176;go_wp2
  go_quiet (first|(go_at_call 171;exact nQ hs))
  go_wp2;go_ret;exact⟨bH HR.out.symm,Jv.out _⟩
 have h4':a<=64 -aX o:=by omega
 have HR:Hid (res=(a%aX o==0)):=hZ (by
  rw[lH.out];rw[Bool.eq_iff_iff];simp[h1',h2',h3',h4'])
 clear lH;generalize aX o=s at*;go_enter Tryz.func176,Tryz.ntmps176;go_wp2
 go_quiet (first|(go_at_call 171;exact nQ hs))
 go_wp2;go_ret;exact⟨bH HR.out.symm,Jv.out _⟩
theorem aJH (w:World):Calls Tryz.prog 59 #[] w λe w'=>e=.returned (.slice (some ⟨w.heap.size,0,none⟩) 1 1)/\w'=w.alloc (.cells #[.int .i64 0,.int .i64 6] 184):=by
 go_enter Tryz.func59,Tryz.ntmps59;go_wp2;go_ret;exact⟨rfl,rfl⟩
theorem aJG (w:World):Calls Tryz.prog 59 #[] w λe w'=>∃v,e=.returned v/\Os lQ 2 184 w' w.heap.size v Kt/\Below w.heap.size w w':=
 (aJH w).mono λe w' ⟨h1,h2⟩=>⟨_,h1,by rw[h2];exact Os.mk (xs:=Kt) (c:=1) (cur:= #[.int .i64 0,.int .i64 6]) (nR _) (by show(w.heap.push _)[w.heap.size]? =_;exact Array.getElem?_push_size) (by simp[Kt]) (by decide) rfl jD (by simp[Kt,lQ]),by rw[h2];exact(Below.refl _ w).alloc (nR _) _⟩
end Go.Proofs.YtoogfmbojlpjaaaGreat
