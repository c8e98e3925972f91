/- Pools by value: loads, stores, zero values. -/
import Derived.Test.YtnbhchfpfbbngaaPlq
import Derived.Test.YtnbhchfpfbbngaaBdy
import Derived.Deep.MidRow
import Derived.Deep.WholeRow
import Derived.Laws.ResultCell
namespace Go.Proofs.Ytnbhchfpfbbngaa
open Go.ChangeShapes Go.WideShapes Go.ChangeAt Go.RowKit Go.Joins
set_option linter.unusedVariables false
set_option linter.unusedSimpArgs false
/-- A block of cells. -/
def Bx (w : World) (g : Nat) (T : TypeId) (cs : Array Value) : Prop := w.heap[g]? = some (.cells cs T (0, 0))
theorem Bx.lt {w : World} {g : Nat} {T : TypeId} {cs : Array Value} (h : Bx w g T cs) : g < w.heap.size := blk_lt h
theorem Bx.new (w : World) (T : TypeId) (cs : Array Value) : Bx (w.alloc (.cells cs T)) w.heap.size T cs := heap_alloc_last w _
theorem Bx.below {w w' : World} {g : Nat} {T : TypeId} {cs : Array Value} (h : Bx w g T cs) (hb : Below w.heap.size w w') : Bx w' g T cs := (hb.block g h.lt).trans h
theorem Bx.cell {w : World} {g : Nat} {T : TypeId} {cs : Array Value} (h : Bx w g T cs) (i : Nat) : w.cell? ⟨g, i, none⟩ = cs[i]? := blk_cell h i
theorem Bx.free {w : World} {g : Nat} {T : TypeId} {cs : Array Value} (h : Bx w g T cs) (i : Nat) : w.frozen? ⟨g, i, none⟩ = false := blk_free h i
theorem Bx.set {w : World} {g : Nat} {T : TypeId} {cs : Array Value} (h : Bx w g T cs) (i : Nat) (v : Value) : Bx (w.setCell ⟨g, i, none⟩ v) g T (cs.setIfInBounds i v) := by
  unfold Bx at *
  simp [World.setCell, Array.getElem?_modify, h]
theorem Bx.other {w : World} {g : Nat} {T : TypeId} {cs : Array Value} (h : Bx w g T cs) {q : Nat} (hq : ¬ g = q) (i : Nat) (v : Value) : Bx (w.setCell ⟨q, i, none⟩ v) g T cs := (Below.heap_setCell w ⟨q, i, none⟩ v g hq).trans h
theorem Bx.row {w : World} {g : Nat} {T : TypeId} {cs : Array Value} (h : Bx w g T cs) (cs' : Array Value) : Bx (w.setRow g cs') g T cs' := setRow_heap w g cs cs' T (0, 0) h
theorem Bx.orow {w : World} {g : Nat} {T : TypeId} {cs : Array Value} (h : Bx w g T cs) {q : Nat} (hq : ¬ g = q) (cs' : Array Value) : Bx (w.setRow q cs') g T cs := (setRow_other w q g cs' hq).trans h
/-- 64 integers by value. -/
structure RfV (rs : Array Value) (r : Nat → Int) : Prop where
  size : rs.size = 64
  at_ : ∀ i, i < 64 → rs[i]? = some (.int .i64 (r i))
/-- A pool by value. -/
structure PlV (w : World) (cs : Array Value) (p : Pl) : Prop where
  size : cs.size = 65
  list : ∃ v, cs[0]? = some v ∧ Bv w v p.f
  at_ : ∀ i, i < 64 → cs[i + 1]? = some (.int .i64 (p.r i))
theorem PlV.below {w w' : World} {cs : Array Value} {p : Pl} (h : PlV w cs p) (hb : Below w.heap.size w w') : PlV w' cs p :=
  ⟨h.size, by obtain ⟨v, h1, h2⟩ := h.list; exact ⟨v, h1, h2.below hb⟩, h.at_⟩
theorem PlV.refs {w : World} {cs : Array Value} {p : Pl} (h : PlV w cs p) : RfV (cs.extract 1 65) p.r :=
  ⟨by rw [Array.size_extract, h.size]; rfl, fun i hi => by
    rw [Array.getElem?_extract, h.size, if_pos (by omega), Nat.add_comm 1 i]; exact h.at_ i hi⟩
theorem bv_one {w : World} {v : Value} {xs : List Blk} (h : Bv w v xs) : v.oneCell' = true := by
  obtain ⟨A, n, c, rfl, _⟩ := h; rfl
theorem PlV.one {w : World} {cs : Array Value} {p : Pl} (h : PlV w cs p) : cs.all (·.oneCell') = true := by
  rw [Array.all_eq_true]
  intro i hi
  rw [h.size] at hi
  obtain ⟨v, hv, hb⟩ := h.list
  cases i with
  | zero => rw [Array.getElem?_eq_getElem (by rw [h.size]; exact hi)] at hv; cases hv; exact bv_one hb
  | succ i =>
    have := h.at_ i (by omega)
    rw [Array.getElem?_eq_getElem (by rw [h.size]; exact hi)] at this
    injection this with this
    rw [this]; rfl
theorem RfV.one {rs : Array Value} {r : Nat → Int} (h : RfV rs r) : rs.all (·.oneCell') = true := by
  rw [Array.all_eq_true]
  intro i hi
  rw [h.size] at hi
  have := h.at_ i hi
  rw [Array.getElem?_eq_getElem (by rw [h.size]; exact hi)] at this
  injection this with this
  rw [this]; rfl
theorem RfV.set {rs : Array Value} {r : Nat → Int} (h : RfV rs r) (j : Nat) (x : Int) : RfV (rs.setIfInBounds j (.int .i64 x)) (updI r j x) :=
  ⟨by rw [Array.size_setIfInBounds]; exact h.size, fun i hi => by
    unfold updI
    by_cases e : i = j
    · subst e
      rw [Array.getElem?_setIfInBounds_self_of_lt (by rw [h.size]; exact hi), if_pos rfl]
    · rw [Array.getElem?_setIfInBounds_ne (fun x => e x.symm), if_neg e]; exact h.at_ i hi⟩
theorem PlV.set {w : World} {cs : Array Value} {p : Pl} (h : PlV w cs p) (j : Nat) (x : Int) : PlV w (cs.setIfInBounds (1 + j) (.int .i64 x)) ⟨p.f, updI p.r j x⟩ :=
  ⟨by rw [Array.size_setIfInBounds]; exact h.size, by
    obtain ⟨v, h1, h2⟩ := h.list
    exact ⟨v, by rw [Array.getElem?_setIfInBounds_ne (by omega)]; exact h1, h2⟩, fun i hi => by
    simp only [updI]
    by_cases e : i = j
    · subst e
      rw [Nat.add_comm, Array.getElem?_setIfInBounds_self_of_lt (by rw [h.size]; omega), if_pos rfl]
    · rw [Array.getElem?_setIfInBounds_ne (by omega), if_neg e]; exact h.at_ i hi⟩
theorem PlV.put {w : World} {cs : Array Value} {p : Pl} (h : PlV w cs p) {v : Value} {l : List Blk} (hv : Bv w v l) : PlV w (cs.setIfInBounds 0 v) ⟨l, p.r⟩ :=
  ⟨by rw [Array.size_setIfInBounds]; exact h.size, ⟨v, by rw [Array.getElem?_setIfInBounds_self_of_lt (by rw [h.size]; omega)], hv⟩, fun i hi => by
    rw [Array.getElem?_setIfInBounds_ne (by omega)]; exact h.at_ i hi⟩
def zR : Array Value := Array.replicate 64 (.int .i64 0)
def zP : Array Value := #[.slice none 0 0] ++ zR
theorem zR_v : RfV zR (fun _ => 0) := ⟨by simp [zR], fun i hi => by simp [zR, hi]⟩
def mkP (v : Value) (rs : Array Value) : Array Value := #[v] ++ rs
theorem mkP_v {w : World} {v : Value} {rs : Array Value} {l : List Blk} {r : Nat → Int} (hv : Bv w v l) (h : RfV rs r) : PlV w (mkP v rs) ⟨l, r⟩ :=
  ⟨by simp [mkP, h.size], ⟨v, by rw [mkP, Array.getElem?_append_left (by simp)]; rfl, hv⟩, fun i hi => by
    have := h.at_ i hi
    simp only [mkP]
    rw [Array.getElem?_append_right (by simp)]
    simpa using this⟩
theorem zP_v (w : World) : PlV w zP zeroP := mkP_v Bv.nil zR_v
theorem infoP : (Try.prog.info? 42).map (·.size) = some 65 := by kernel_rfl
theorem infoR : (Try.prog.info? 40).map (·.size) = some 64 := by kernel_rfl
theorem zeroPv : (Try.prog.info? 42).map (fun i => (i.zero, i.size)) = some (some (.agg zP), 65) := by kernel_rfl
theorem zeroRv : (Try.prog.info? 40).map (fun i => (i.zero, i.size)) = some (some (.agg zR), 64) := by kernel_rfl
theorem zvP (w : World) : (zeroValue 42).run Try.prog w = .ok (.agg zP) w := (zero_of_info zeroPv).1 w
theorem zvR (w : World) : (zeroValue 40).run Try.prog w = .ok (.agg zR) w := (zero_of_info zeroRv).1 w
theorem fold_put (o : Nat) : ∀ (l : List Value) (k : Nat) (cs : Array Value), o + k + l.length ≤ cs.size → ((l.zipIdx k).foldl (fun (cs : Array Value) (x : Value × Nat) => cs.setIfInBounds (o + x.2) x.1) cs).size = cs.size ∧ ∀ j, ((l.zipIdx k).foldl (fun (cs : Array Value) (x : Value × Nat) => cs.setIfInBounds (o + x.2) x.1) cs)[j]? = if o + k ≤ j ∧ j < o + k + l.length then l[j - (o + k)]? else cs[j]?
  | [], k, cs, h => ⟨rfl, fun j => by rw [if_neg (by simp)]; rfl⟩
  | v :: l, k, cs, h => by
    simp only [List.length_cons] at h
    obtain ⟨h1, h2⟩ := fold_put o l (k + 1) (cs.setIfInBounds (o + k) v) (by rw [Array.size_setIfInBounds]; omega)
    simp only [List.zipIdx_cons, List.foldl_cons]
    refine ⟨by rw [h1, Array.size_setIfInBounds], fun j => ?_⟩
    rw [h2]
    by_cases e : j = o + k
    · subst e
      rw [if_neg (by omega), if_pos (by simp), Array.getElem?_setIfInBounds_self_of_lt (by omega), Nat.sub_self]; rfl
    · rw [Array.getElem?_setIfInBounds_ne (by omega)]
      by_cases e2 : o + (k + 1) ≤ j ∧ j < o + (k + 1) + l.length
      · rw [if_pos e2, if_pos (by simp only [List.length_cons]; omega), show j - (o + k) = (j - (o + (k + 1))) + 1 by omega]; rfl
      · rw [if_neg e2, if_neg (by simp only [List.length_cons]; omega)]
theorem fold_putA (o : Nat) (rs cs : Array Value) (h : o + rs.size ≤ cs.size) : (Array.foldl (fun (cs : Array Value) (x : Value × Nat) => cs.setIfInBounds (o + x.2) x.1) cs rs.zipIdx 0 rs.size).size = cs.size ∧ ∀ j, (Array.foldl (fun (cs : Array Value) (x : Value × Nat) => cs.setIfInBounds (o + x.2) x.1) cs rs.zipIdx 0 rs.size)[j]? = if o ≤ j ∧ j < o + rs.size then rs[j - o]? else cs[j]? := by
  have h0 := fold_put o rs.toList 0 cs (by simpa using h)
  have e : Array.foldl (fun (cs : Array Value) (x : Value × Nat) => cs.setIfInBounds (o + x.2) x.1) cs rs.zipIdx 0 rs.size = (rs.toList.zipIdx 0).foldl (fun (cs : Array Value) (x : Value × Nat) => cs.setIfInBounds (o + x.2) x.1) cs := by
    obtain ⟨l⟩ := rs
    simp
  rw [e]
  simpa using h0
theorem zP_size : zP.size = 65 := by simp [zP, zR]
theorem zP_set (v : Value) : zP.setIfInBounds 0 v = mkP v zR := by
  apply Array.ext'
  simp [zP, mkP]
theorem run_bdP0 (w : World) : (Instr.build 42 #[]).run Try.prog w = .ok (.agg zP) w := by
  unfold Instr.build
  simp [Sem.run_bind, zvP, run_underlying Try.underlying42, Result.andThen, go_sem, Instr.fill, Value.cells]
theorem put_mk (v : Value) {rs : Array Value} (hr : rs.size = 64) : Array.foldl (fun (cs : Array Value) (x : Value × Nat) => cs.setIfInBounds (1 + x.2) x.1) (zP.setIfInBounds 0 v) rs.zipIdx 0 64 = mkP v rs := by
  obtain ⟨h1, h2⟩ := fold_putA 1 rs (zP.setIfInBounds 0 v) (by rw [Array.size_setIfInBounds, zP_size, hr]; omega)
  rw [hr] at h1 h2
  apply Array.ext_getElem?
  intro j
  rw [h2, zP_set]
  unfold mkP
  by_cases e : 1 ≤ j ∧ j < 1 + 64
  · rw [if_pos e, Array.getElem?_append_right (by simp; omega)]; rfl
  · rw [if_neg e]
    by_cases e0 : j = 0
    · subst e0; rw [Array.getElem?_append_left (by simp), Array.getElem?_append_left (by simp)]
    · rw [Array.getElem?_eq_none (by simp [zR]; omega), Array.getElem?_eq_none (by simp; omega)]
theorem run_bdP2 (A : Option Addr) (n c : Nat) {rs : Array Value} (hr : rs.size = 64) (w : World) : (Instr.build 42 #[(0, .slice A n c), (1, .agg rs)]).run Try.prog w = .ok (.agg (mkP (.slice A n c) rs)) w := by
  unfold Instr.build
  have h0 : ¬ zP = #[] := fun e => by have := zP_size; rw [e] at this; cases this
  simp [Sem.run_bind, zvP, run_underlying Try.underlying42, Result.andThen, go_sem, Instr.fill, Value.cells, hr, zP_size, h0]
  rw [put_mk _ hr]
theorem run_bdP1 (A : Option Addr) (n c : Nat) (w : World) : (Instr.build 42 #[(0, .slice A n c)]).run Try.prog w = .ok (.agg (mkP (.slice A n c) zR)) w := by
  unfold Instr.build
  have h0 : ¬ zP = #[] := fun e => by have := zP_size; rw [e] at this; cases this
  simp [Sem.run_bind, zvP, run_underlying Try.underlying42, Result.andThen, go_sem, Instr.fill, Value.cells]
  rw [if_neg h0, zP_set]; rfl
section
variable {ops : Array Oper} {rest : List Oper} {dst : Option Tmp} {x y : Operand} {type : TypeId} {pos : String} {after : Array Edge} {a : Act} {w : World} {Q : Exit → Act → World → Prop}
/-- A whole pool is loaded. -/
theorem ldP {T : TypeId} {cs : Array Value} (g : Nat) (hx : a.eval x = .pointer (some ⟨g, 0, none⟩)) (hc : Bx w g T cs) (hn : cs.size = 65)
    (h : wpList Try.prog ops Q rest (a.put dst (.agg cs)) w) : wpList Try.prog ops Q (⟨dst, .load 42 x, type, pos, after, none⟩ :: rest) a w :=
  wpList_load_mid rfl 42 x rfl g 0 hx cs.toList _ (fun j v hv => by rw [Nat.zero_add, hc.cell]; simpa using hv) Try.underlying42 rfl (by rw [infoP, Array.length_toList, hn]) (by simpa using h)
/-- The 64 integers of a pool, or of a row, are loaded. -/
theorem ldR {T : TypeId} {cs : Array Value} (g o : Nat) (rs : Array Value) (hx : a.eval x = .pointer (some ⟨g, o, none⟩)) (hc : Bx w g T cs) (hr : ∀ i v, rs[i]? = some v → cs[o + i]? = some v) (hn : rs.size = 64)
    (h : wpList Try.prog ops Q rest (a.put dst (.agg rs)) w) : wpList Try.prog ops Q (⟨dst, .load 40 x, type, pos, after, none⟩ :: rest) a w :=
  wpList_load_mid rfl 40 x rfl g o hx rs.toList _ (fun j v hv => by rw [hc.cell]; exact hr j v (by simpa using hv)) Try.underlying40 rfl (by rw [infoR, Array.length_toList, hn]) (by simpa using h)
/-- A whole pool is stored, into a block that was made last. -/
theorem stPn {W : World} {c : Array Value} (cs : Array Value) (hx : a.eval x = .pointer (some ⟨W.heap.size, 0, none⟩)) (hy : a.eval y = .agg cs) (hc : c.size = 65) (hn : cs.size = 65) (h1 : cs.all (·.oneCell') = true)
    (h : wpList Try.prog ops Q rest (a.put dst undef) (W.alloc (.cells cs 42))) : wpList Try.prog ops Q (⟨dst, .store 42 x y, type, pos, after, none⟩ :: rest) a (W.alloc (.cells c 42)) := by
  refine wpList_plain rfl fun K hK => ?_
  unfold Oper.wp execOp
  simp only [hx, hy, run_storeAt_new W 42 c cs (by rw [infoP, hn]) (by rw [hc, hn]) h1, Sem.run_bind, Sem.run_pure, Result.andThen_ok]
  exact hK _ _ h
theorem stRn {W : World} {c : Array Value} (cs : Array Value) (hx : a.eval x = .pointer (some ⟨W.heap.size, 0, none⟩)) (hy : a.eval y = .agg cs) (hc : c.size = 64) (hn : cs.size = 64) (h1 : cs.all (·.oneCell') = true)
    (h : wpList Try.prog ops Q rest (a.put dst undef) (W.alloc (.cells cs 40))) : wpList Try.prog ops Q (⟨dst, .store 40 x y, type, pos, after, none⟩ :: rest) a (W.alloc (.cells c 40)) := by
  refine wpList_plain rfl fun K hK => ?_
  unfold Oper.wp execOp
  simp only [hx, hy, run_storeAt_new W 40 c cs (by rw [infoR, hn]) (by rw [hc, hn]) h1, Sem.run_bind, Sem.run_pure, Result.andThen_ok]
  exact hK _ _ h
/-- A whole pool is stored. -/
theorem stPg (g : Nat) {z : Array Value} (cs : Array Value) (hx : a.eval x = .pointer (some ⟨g, 0, none⟩)) (hy : a.eval y = .agg cs) (hz : Bx w g 42 z) (hs : z.size = 65) (hn : cs.size = 65) (h1 : cs.all (·.oneCell') = true)
    (h : wpList Try.prog ops Q rest (a.put dst undef) (w.setRow g cs)) : wpList Try.prog ops Q (⟨dst, .store 42 x y, type, pos, after, none⟩ :: rest) a w := by
  refine wpList_plain rfl fun K hK => ?_
  unfold Oper.wp execOp
  simp only [hx, hy, Instr.storeAt, Instr.sureAddr, Sem.run_bind, Sem.run_pure, Result.andThen_ok, run_storeVar_row w g 42 42 z cs hz (by rw [infoP, hn]) (by rw [hs, hn]) h1]
  exact hK _ _ h
/-- A pool, or a row, of zeros. -/
theorem alP (h : wpList Try.prog ops Q rest (a.put dst (.pointer (some ⟨w.heap.size, 0, none⟩))) (w.alloc (.cells zP 42))) : wpList Try.prog ops Q (⟨dst, .alloc 42, type, pos, after, none⟩ :: rest) a w := by
  refine wpList_plain rfl fun K hK => ?_
  unfold Oper.wp execOp
  simp only [Instr.alloc, zvP, Sem.run_bind, Sem.run_pure, Result.andThen_ok]
  exact hK _ _ h
theorem alR (h : wpList Try.prog ops Q rest (a.put dst (.pointer (some ⟨w.heap.size, 0, none⟩))) (w.alloc (.cells zR 40))) : wpList Try.prog ops Q (⟨dst, .alloc 40, type, pos, after, none⟩ :: rest) a w := by
  refine wpList_plain rfl fun K hK => ?_
  unfold Oper.wp execOp
  simp only [Instr.alloc, zvR, Sem.run_bind, Sem.run_pure, Result.andThen_ok]
  exact hK _ _ h
theorem bdP0 (h : wpList Try.prog ops Q rest (a.put dst (.agg zP)) w) : wpList Try.prog ops Q (⟨dst, .build 42 #[], type, pos, after, none⟩ :: rest) a w := by
  refine wpList_plain rfl fun K hK => ?_
  unfold Oper.wp execOp
  simp only [run_bdP0, Array.map_empty, List.map_toArray, List.map_nil, Sem.run_bind, Sem.run_pure, Result.andThen_ok]
  exact hK _ _ h
theorem bdP1 {p : Operand} {A : Option Addr} {n c : Nat} (hp : a.eval p = .slice A n c) (h : wpList Try.prog ops Q rest (a.put dst (.agg (mkP (.slice A n c) zR))) w) : wpList Try.prog ops Q (⟨dst, .build 42 #[(0, p)], type, pos, after, none⟩ :: rest) a w := by
  refine wpList_plain rfl fun K hK => ?_
  unfold Oper.wp execOp
  simp only [List.map_toArray, List.map_cons, List.map_nil, hp, run_bdP1, Sem.run_bind, Sem.run_pure, Result.andThen_ok]
  exact hK _ _ h
end
end Go.Proofs.Ytnbhchfpfbbngaa
