/- Lemmas. -/
import Derived.Shelf.SlSortCmp.WholeK
import Derived.Test.YtoogfmbojlpjaaaGreatQ5
import Derived.Test.YtoogfmbojlpjaaaGreatQA
set_option maxRecDepth 100000
set_option maxHeartbeats 32000000
set_option linter.unusedVariables false
set_option linter.unusedSimpArgs false
namespace Go.Proofs.YtoogfmbojlpjaaaGreat
open Go.ChangeShapes Go.WideShapes Go.ChangeAt Go.RowKit Go.Joins Go.Sort
section
section
variable {α β:Type} [Inhabited β] {f:α->List Value} {sz:Nat} {T:TypeId} {w:World} {base g n c:Nat} {xs:List α} {enc:β->List Value}
theorem aCI {l:List Value} {i:Nat} {u:Value} (h:l[i]? =some u):l[i]! =u:=by
 rw[List.getElem!_eq_getElem?_getD,h];rfl
theorem aAs (hf:∀x,(f x).length=sz) (hs:0<sz) (val:β->α) (he:∀y,enc y=f (val y)) (h:Os f sz T w base (.slice (some ⟨g,0,none⟩) n c) xs) (d':Array β) (hd:d'.size=xs.length) (m:Nat) (os:Array Obj):
 Os f sz T (sortWorldK enc sz w g 0 m d' os) base (.slice (some ⟨g,0,none⟩) n c) (d'.toList.map val)/\Go.RowKit.Below base w (sortWorldK enc sz w g 0 m d' os):=by
 obtain⟨g',cur,e,rfl,hg,hh,hn,hm,hz,hx⟩:=h.inv;injection e with e;subst e;have hl:(d'.toList.map val).length=xs.length:=by simp[hd]
 have hgl:=kM hh;have hcap:xs.length*sz<=cur.size:=by rw[hz];exact Nat.mul_le_mul_right _ hn
 have hheap:∀k,k<w.heap.size->(sortWorldK enc sz w g 0 m d' os).heap[k]? =(w.heap.modify g (onCells (putCells id 0 (flatK enc sz d'))))[k]? :=λk hk=>by
  show((w.heap.modify g (onCells (putCells id 0 (flatK enc sz d'))))++os)[k]? =_;rw[Array.getElem?_append_left (by simpa using hk)]
 constructor
 ·rw[<-hl]
  refine Os.mk (cur:=putCells id 0 (flatK enc sz d') cur) hg ?_ (by rw[hl];exact hn) hm (by simp[putCells,hz]) hf ?_
  ·rw[hheap g hgl,Array.getElem?_modify,if_pos rfl,hh];rfl
  ·apply List.ext_getElem?
   intro k;rw[hl,List.getElem?_take];split
   ·rename_i hk
    have hi:k/sz<xs.length:=(Nat.div_lt_iff_lt_mul hs).2 hk;have hr:=Nat.mod_lt k hs;obtain⟨y,hy⟩:∃y,d'[k/sz]? =some y:=⟨_,Array.getElem?_eq_getElem (by omega)⟩;have hym:(d'.toList.map val)[k/sz]? =some (val y):=by rw[List.getElem?_map,Array.getElem?_toList,hy];rfl
    have e1:=vM hf _ _ _ hym (k%sz) hr;rw[Nat.div_add_mod'] at e1;rw[e1,Array.getElem?_toList];obtain⟨u,hu⟩:∃u,(f (val y))[k%sz]? =some u:=⟨_,List.getElem?_eq_getElem (by rw[hf];exact hr)⟩;have aFA:(flatK enc sz d')[k]! =u:=by
     rw[get_flatK _ _ _ _ (by rw[hd];exact hk)];have:d'[k/sz]! =y:=by rw[Array.getElem!_eq_getD,Array.getD_eq_getD_getElem?,hy];rfl
     rw[this,he];exact aCI hu
    rw[hu];have hks:k<cur.size:=by omega
    simp only[putCells,Array.getElem?_mapIdx,Array.getElem?_eq_getElem hks,Option.map_some];rw[if_pos ⟨Nat.zero_le _,by rw[size_flatK,hd];omega⟩,Nat.sub_zero,aFA];rfl
   ·rename_i hk
    rw[List.getElem?_eq_none];rw[iV hf,hl];omega
 ·refine⟨rfl,rfl,rfl,?_,λk hk=> ?_⟩
  ·show w.heap.size<=((w.heap.modify g (onCells (putCells id 0 (flatK enc sz d'))))++os).size
   simp
  ·by_cases hkl:k<w.heap.size
   ·rw[hheap k hkl,Array.getElem?_modify,if_neg (by omega)]
   ·omega
theorem aB3 (hf:∀x,(f x).length=sz) (hs:0<sz) (val:β->α) (he:∀y,enc y=f (val y)) (h:Os f sz T w base (.slice (some ⟨g,0,none⟩) n c) xs) (d:Array β) (hd:d.toList.map val=xs):HoldsK enc sz w g 0 d:=by
 intro j hj;rw[size_flatK] at hj;have hi:j/sz<d.size:=(Nat.div_lt_iff_lt_mul hs).2 hj;have hr:=Nat.mod_lt j hs;obtain⟨y,hy⟩:∃y,d[j/sz]? =some y:=⟨_,Array.getElem?_eq_getElem hi⟩;have hx:xs[j/sz]? =some (val y):=by rw[<-hd,List.getElem?_map,Array.getElem?_toList,hy];rfl
 obtain⟨u,hu⟩:∃u,(f (val y))[j%sz]? =some u:=⟨_,List.getElem?_eq_getElem (by rw[hf];exact hr)⟩;have hc:=h.cells hf hx _ u hu;rw[Nat.div_add_mod'] at hc;have aFA:(flatK enc sz d)[j]! =u:=by
  rw[get_flatK _ _ _ _ hj];have:d[j/sz]! =y:=by rw[Array.getElem!_eq_getD,Array.getD_eq_getD_getElem?,hy];rfl
  rw[this,he];exact aCI hu
 rw[aFA,Nat.zero_add];exact hc
end
theorem aAn {β:Type} [Inhabited β] {d d':Array β} (h:PermIn 0 d.size d d'):d'.toList.Perm d.toList:=by
 obtain⟨h1,_,h3⟩:=h;rw[Array.extract_size,<-h1,Array.extract_size] at h3;exact h3
theorem Sa {β:Type} [Inhabited β] {lt:β->β->Bool} {d:Array β} (h:SortedIn lt 0 d.size d):d.toList.Pairwise (λa b=>lt b a=false):=by
 rw[List.pairwise_iff_getElem];intro i j hi hj hij;have:=h i j (Nat.zero_le _) hij (by simpa using hj);simp only[Array.getElem_toList];rwa[getElem!_pos d j (by simpa using hj),getElem!_pos d i (by simpa using hi)] at this
end
end Go.Proofs.YtoogfmbojlpjaaaGreat
