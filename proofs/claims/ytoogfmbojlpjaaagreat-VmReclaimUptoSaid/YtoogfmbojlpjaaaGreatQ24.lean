/- Lemmas. -/
import Derived.Test.YtoogfmbojlpjaaaGreatQ23
import Derived.Test.YtoogfmbojlpjaaaGreatQ10
import Derived.Test.YtoogfmbojlpjaaaGreatQA
set_option maxRecDepth 100000
set_option maxHeartbeats 32000000
set_option linter.unusedVariables false
set_option linter.unusedSimpArgs false
namespace Go.Proofs.YtoogfmbojlpjaaaGreat
open Go.RowKit Go.Sort
def jL (hand:Int) (may used:List Bool):Int:=
 if used.length≠may.length then 1 else if hand<0\/(may.length:Int)<=hand then 2 else if firstT may<may.length then 0 else 3
def Bc (hand:Int) (may used:List Bool):Int:=if jL hand may used=0 then(vY may used hand.toNat may.length:Int) else 0
def nS (hand:Int) (may used:List Bool):Int:=if jL hand may used=0 then(((vY may used hand.toNat may.length+1)%may.length:Nat):Int) else 0
def yH (hand:Int) (may used:List Bool):List Bool:=if jL hand may used=0 then aB2 may used hand.toNat may.length else []
def aKs (T:TypeId) (hand:Int) (may used:List Bool) (w:World) (e:Ending) (w':World):Prop:=
 ∃A' n' c',e=.returned (.tuple #[.int .i64 (Bc hand may used),.int .i64 (nS hand may used),.slice A' n' c',.int .i64 (jL hand may used)])/\Ow fB 1 T w' w.heap.size A' n' c' (yH hand may used)/\Below w.heap.size w w'
theorem Za {hand:Int} {may used:List Bool} :jL hand may used=0↔used.length=may.length/\0<=hand/\hand<may.length/\firstT may<may.length:=by
 unfold jL;by_cases h1:used.length=may.length
 ·by_cases h2:hand<0\/(may.length:Int)<=hand
  ·simp[h1,h2];omega
  ·by_cases h3:firstT may<may.length
   ·simp[h1,h2,h3];omega
   ·simp[h1,h2,h3]
 ·simp[h1]
theorem Qd (A:Option Addr) (n c:Nat) (xs:List Bool) (w:World) (B:Nat) (hz:Rw fB 1 w B A n xs) (hbig:n<=140737488355328):
 Calls Tryz.prog 107 #[.slice A n c,.bool true] w λe w'=>e=.returned (.bool (decide (firstT xs<n)))/\w'=w:=by
 have hl:=hz.1;have hi:Hid (Ph xs=if firstT xs<n then(firstT xs:Int) else -1):=hZ (by unfold Ph;rw[hl]);have HZ:=hZ hz;clear hz hl;by_cases h:firstT xs<n
 ·go_enter Tryz.func107,Tryz.ntmps107
  go_wp2_with fail
  refine(Wv A n c xs _ B HZ.out hbig).mono ?_;rintro e w1 ⟨rfl,hw1⟩;rw[hw1,hi.out,if_pos h];clear hw1;go_wp2;go_ret;exact⟨bH (by simp[h]),rfl⟩
 ·go_enter Tryz.func107,Tryz.ntmps107
  go_wp2_with fail
  refine(Wv A n c xs _ B HZ.out hbig).mono ?_;rintro e w1 ⟨rfl,hw1⟩;rw[hw1,hi.out,if_neg h];clear hw1;go_wp2;go_ret;exact⟨bH (by simp[h]),rfl⟩
def aF8 (T:TypeId) (E:Int) (w:World) (e:Ending) (w':World):Prop:=e=.returned (.tuple #[.int .i64 0,.int .i64 0,.slice none 0 0,.int .i64 E])/\w'=w
theorem Nv {T:TypeId} {E:Int} {hand:Int} {may used:List Bool} {w w':World} {e:Ending} (hE:jL hand may used=E) (h0:E≠0) (h:aF8 T E w e w'):aKs T hand may used w e w':=by
 obtain⟨rfl,rfl⟩:=h;have hn:jL hand may used≠0:=by rw[hE];exact h0
 refine⟨none,0,0,?_,?_,Below.refl _ _⟩
 ·unfold Bc nS;rw[if_neg hn,if_neg hn,hE]
 ·unfold yH;rw[if_neg hn];exact Ow.nil
theorem aLh (A1 A2:Option Addr) (n1 c1 n2 c2:Nat) (hand:Int) (w:World) (h:n1≠n2) (m1:n1<=140737488355328) (m2:n2<=140737488355328):
 Calls Tryz.prog 62 #[.int .i64 hand,.slice A1 n1 c1,.slice A2 n2 c2] w (aF8 4 1 w):=by
 have h1:((n2:Int) !=(n1:Int))=true:=by rw[bne_iff_ne];omega
 have h2:((n2:Int)==(n1:Int))=false:=by simp;omega
 clear h;go_enter Tryz.func62,Tryz.ntmps62;go_wp2
 all_goals exact bodyPost_ret (v:=.tuple #[.int .i64 0,.int .i64 0,.slice none 0 0,.int .i64 1]) (by simp[results,Tryz.results62,go_sem]) rfl ⟨rfl,rfl⟩
theorem aLg (A1 A2:Option Addr) (n c1 c2:Nat) (hand:Int) (w:World) (h:hand<0\/(0<=hand/\(n:Int)<=hand)) (m1:n<=140737488355328):
 Calls Tryz.prog 62 #[.int .i64 hand,.slice A1 n c1,.slice A2 n c2] w (aF8 4 2 w):=by
 rcases h with h|⟨h,h'⟩
 all_goals
  go_enter Tryz.func62,Tryz.ntmps62;go_wp2
  all_goals exact bodyPost_ret (v:=.tuple #[.int .i64 0,.int .i64 0,.slice none 0 0,.int .i64 2]) (by simp[results,Tryz.results62,go_sem]) rfl ⟨rfl,rfl⟩
theorem aLf (A1 A2:Option Addr) (n c1 c2:Nat) (may:List Bool) (hand:Int) (w:World) (B:Nat) (hm:Rw fB 1 w B A1 n may) (h:0<=hand) (h':hand<n) (hf:Hid (decide (firstT may<n)=false)) (m1:n<=140737488355328):
 Calls Tryz.prog 62 #[.int .i64 hand,.slice A1 n c1,.slice A2 n c2] w (aF8 4 3 w):=by
 have HM:=hZ hm;clear hm;go_enter Tryz.func62,Tryz.ntmps62;go_wp2_with fail
 refine(Qd A1 n c1 may _ B HM.out m1).mono ?_;rintro e w1 ⟨rfl,hw1⟩;rw[hw1,hf.out];clear hw1;go_wp2
 all_goals exact bodyPost_ret (v:=.tuple #[.int .i64 0,.int .i64 0,.slice none 0 0,.int .i64 3]) (by simp[results,Tryz.results62,go_sem]) rfl ⟨rfl,rfl⟩
end Go.Proofs.YtoogfmbojlpjaaaGreat
