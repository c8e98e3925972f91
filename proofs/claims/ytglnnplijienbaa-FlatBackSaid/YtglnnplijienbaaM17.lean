/- Several texts in one: Bxs, Cln. -/
import Derived.Test.YtglnnplijienbaaM11
import Derived.Deep.MidRow
import Derived.Deep.WholeRow
import Derived.Laws.ResultCell
import Derived.Laws.CopyOwn
import Derived.Test.YtglnnplijienbaaCOwn
/- Blocks of cells that are known as an array; whole structs and arrays loaded and stored. -/
namespace Go.Proofs.Ytglnnplijienbaa
open Go.ChangeShapes Go.WideShapes Go.ChangeAt Go.RowKit Go.Joins
set_option linter.unusedVariables false
set_option linter.unusedSimpArgs false
def Bx (w : World) (g : Nat) (T : TypeId) (cs : Array Value) : Prop := w.heap[g]? = some (.cells cs T (0, 0))
theorem Bx.lt {w : World} {g : Nat} {T : TypeId} {cs : Array Value} (h : Bx w g T cs) : g < w.heap.size := blk_lt h
theorem Bx.new (w : World) (T : TypeId) (cs : Array Value) : Bx (w.alloc (.cells cs T)) w.heap.size T cs := heap_alloc_last w _
theorem Bx.below {w w' : World} {g : Nat} {T : TypeId} {cs : Array Value} (h : Bx w g T cs) (hb : Below w.heap.size w w') : Bx w' g T cs := (hb.block g h.lt).trans h
theorem Bx.cell {w : World} {g : Nat} {T : TypeId} {cs : Array Value} (h : Bx w g T cs) (i : Nat) : w.cell? ⟨g, i, none⟩ = cs[i]? := blk_cell h i
theorem Bx.free {w : World} {g : Nat} {T : TypeId} {cs : Array Value} (h : Bx w g T cs) (i : Nat) : w.frozen? ⟨g, i, none⟩ = false := blk_free h i
theorem Bx.set {w : World} {g : Nat} {T : TypeId} {cs : Array Value} (h : Bx w g T cs) (i : Nat) (v : Value) : Bx (w.setCell ⟨g, i, none⟩ v) g T (cs.setIfInBounds i v) := by
  unfold Bx at *
  simp [World.setCell, Array.getElem?_modify, h]
theorem Bx.other {w : World} {g : Nat} {T : TypeId} {cs : Array Value} (h : Bx w g T cs) {q : Nat} (hq : ¬ g = q) (i : Nat) (v : Value) : Bx (w.setCell ⟨q, i, none⟩ v) g T cs := (Below.heap_setCell w ⟨q, i, none⟩ v g hq).trans h
theorem Bx.row {w : World} {g : Nat} {T : TypeId} {cs : Array Value} (h : Bx w g T cs) (cs' : Array Value) : Bx (w.setRow g cs') g T cs' := setRow_heap w g cs cs' T (0, 0) h
theorem Bx.orow {w : World} {g : Nat} {T : TypeId} {cs : Array Value} (h : Bx w g T cs) {q : Nat} (hq : ¬ g = q) (cs' : Array Value) : Bx (w.setRow q cs') g T cs := (setRow_other w q g cs' hq).trans h
theorem below1 (w : World) (o : Obj) : Below w.heap.size w (w.alloc o) := (Below.refl _ _).alloc (Nat.le_refl _) _
/-- The cells of an array from o on are these. -/
def Sub (cs : Array Value) (o : Nat) (rs : Array Value) : Prop := ∀ (i : Nat) (v : Value), rs[i]? = some v → cs[o + i]? = some v
theorem Sub.all (cs : Array Value) : Sub cs 0 cs := fun i v h => by rw [Nat.zero_add]; exact h
section
variable {P : Program} {ops : Array Oper} {rest : List Oper} {dst : Option Tmp} {x y : Operand} {type : TypeId} {pos : String} {after : Array Edge} {guard : Option (Nat × Bool)} {a : Act} {w : World} {Q : Exit → Act → World → Prop}
theorem run_ld {t T : TypeId} {n : Nat} {d : TypeDesc} (hu : P.underlying t = some d) (hd : d.isRow = true) (hi : (P.info? t).map (·.size) = some n) {cs : Array Value} {g o : Nat} {rs : Array Value} (hc : Bx w g T cs) (hr : Sub cs o rs) (hn : rs.size = n) : (Instr.loadAt t (.pointer (some ⟨g, o, none⟩))).run P w = .ok (.agg rs) w := by
  have := run_loadAt_mid (P := P) w g o t rs.toList d (fun j v hv => by rw [hc.cell]; exact hr j v (by simpa using hv)) hu hd (by rw [hi, Array.length_toList, hn])
  rwa [Array.toArray_toList] at this
theorem run_ldv {t T : TypeId} {n : Nat} {d : TypeDesc} (hu : P.underlying t = some d) (hd : d.isRow = true) (hi : (P.info? t).map (·.size) = some n) {cs : Array Value} {g o : Nat} {rs : Array Value} (hc : Bx w g T cs) (hr : Sub cs o rs) (hn : rs.size = n) : (loadVar t ⟨g, o, none⟩).run P w = .ok (.agg rs) w := by
  have := run_loadVar_mid (P := P) w g o t rs.toList d (fun j v hv => by rw [hc.cell]; exact hr j v (by simpa using hv)) hu hd (by rw [hi, Array.length_toList, hn])
  rwa [Array.toArray_toList] at this
/-- A struct or an array is loaded, whole. -/
theorem ldB {t T : TypeId} {n : Nat} {d : TypeDesc} (hu : P.underlying t = some d) (hd : d.isRow = true) (hi : (P.info? t).map (·.size) = some n) {cs : Array Value} (g o : Nat) (rs : Array Value) (hx : a.eval x = .pointer (some ⟨g, o, none⟩)) (hw : Region.wanted ⟨dst, .load t x, type, pos, after, guard⟩ (yielded ops a.tmps) = true) (hc : Bx w g T cs) (hr : Sub cs o rs) (hn : rs.size = n)
    (h : wpList P ops Q rest (a.put dst (.agg rs)) w) : wpList P ops Q (⟨dst, .load t x, type, pos, after, guard⟩ :: rest) a w := by
  have h' : wpList P ops Q rest (a.put dst (.agg rs.toList.toArray)) w := by simpa using h
  refine wpList_step fun K hK => ?_
  simp only [hw, if_true]
  exact wp_load_mid t x rfl g o hx rs.toList _ (fun j v hv => by rw [hc.cell]; exact hr j v (by simpa using hv)) hu hd (by rw [hi, Array.length_toList, hn]) (hK _ _ h')
/-- A struct or an array is stored, whole, into the block that was made last. -/
theorem stN {t : TypeId} {n : Nat} (hi : (P.info? t).map (·.size) = some n) {W : World} {c : Array Value} (cs : Array Value) (hx : a.eval x = .pointer (some ⟨W.heap.size, 0, none⟩)) (hy : a.eval y = .agg cs) (hc : c.size = n) (hn : cs.size = n) (h1 : cs.all (·.oneCell') = true)
    (h : wpList P ops Q rest (a.put dst undef) (W.alloc (.cells cs t))) : wpList P ops Q (⟨dst, .store t x y, type, pos, after, none⟩ :: rest) a (W.alloc (.cells c t)) := by
  refine wpList_plain rfl fun K hK => ?_
  unfold Oper.wp execOp
  simp only [hx, hy, run_storeAt_new W t c cs (by rw [hi, hn]) (by rw [hc, hn]) h1, Sem.run_bind, Sem.run_pure, Result.andThen_ok]
  exact hK _ _ h
/-- .. into a block. -/
theorem stB {t : TypeId} {n : Nat} (hi : (P.info? t).map (·.size) = some n) (g : Nat) {z : Array Value} (cs : Array Value) (hx : a.eval x = .pointer (some ⟨g, 0, none⟩)) (hy : a.eval y = .agg cs) (hz : Bx w g t z) (hs : z.size = n) (hn : cs.size = n) (h1 : cs.all (·.oneCell') = true)
    (h : wpList P ops Q rest (a.put dst undef) (w.setRow g cs)) : wpList P ops Q (⟨dst, .store t x y, type, pos, after, none⟩ :: rest) a w := by
  refine wpList_plain rfl fun K hK => ?_
  unfold Oper.wp execOp
  simp only [hx, hy, Instr.storeAt, Instr.sureAddr, Sem.run_bind, Sem.run_pure, Result.andThen_ok, run_storeVar_row w g t t z cs hz (by rw [hi, hn]) (by rw [hs, hn]) h1]
  exact hK _ _ h
/-- .. into the midst of a block. -/
theorem stM {t T : TypeId} {n : Nat} (hi : (P.info? t).map (·.size) = some n) (g o : Nat) {z : Array Value} (cs : Array Value) (hx : a.eval x = .pointer (some ⟨g, o, none⟩)) (hy : a.eval y = .agg cs) (hz : Bx w g T z) (hs : o + n ≤ z.size) (hn : cs.size = n) (h1 : cs.all (·.oneCell') = true)
    (h : wpList P ops Q rest (a.put dst undef) (w.setCells g o cs.toList)) : wpList P ops Q (⟨dst, .store t x y, type, pos, after, none⟩ :: rest) a w :=
  wpList_store_mid rfl t x y rfl g o cs hx hy (fun j hj => ⟨by rw [hz.cell, Array.getElem?_eq_getElem (by omega)]; rfl, hz.free _⟩) (by rw [hi, hn]) h1 h
end
theorem results_cell1 {fn : Func} {p : Tmp} {ty : TypeId} (h : fn.results = #[.cell p ty]) (tmps : Array Value) (P : Program) (w : World) :
    (results fn tmps).run P w = ((asAddr (tmps.getD p undef)).run P w).andThen fun a w₁ => (loadVar ty a).run P w₁ := by
  simp only [results, h]
  simp [Sem.run_bind, Result.andThen]
end Go.Proofs.Ytglnnplijienbaa

/- slices.Clone at []byte and []int. -/
namespace Go.Proofs.Ytglnnplijienbaa
open Go.ChangeShapes Go.WideShapes Go.ChangeAt Go.RowKit Go.Joins
set_option linter.unusedVariables false
set_option maxRecDepth 100000
theorem u8info : (Try.prog.info? 5).map (fun i => (i.zero, i.size, i.bytes)) = some (some (.int .u8 0), 1, 1) := by kernel_rfl
theorem eq_nil (w : World) (a : Option Addr) (n c n' c' : Nat) : (binOp .eql 50 (.slice a n c) (.slice none n' c')).run Try.prog w = .ok (.bool a.isNone) w := Lib.run_eql_slice_nil w _ _ a n c n' c' Try.underlying50

set_option maxHeartbeats 2000000 in
theorem clone_any (A : Option Addr) (n c : Nat) (zs : List Int) (w : World) (B : Nat) (hz : Row .u8 w B A n zs) (_ : B ≤ w.heap.size) (hbig : n ≤ 140737488355328) :
    Calls Try.prog 24 #[.slice A n c] w fun e w' => ∃ A' c', e = .returned (.slice A' n c') ∧ Own .u8 5 w' w.heap.size A' n c' zs ∧ Below w.heap.size w w' := by
  have q := eq_nil
  cases A with
  | none =>
    have h0 : n = 0 := by
      rcases Nat.eq_zero_or_pos n with h | h
      · exact h
      · obtain ⟨_, _, e, _⟩ := hz.2.2 h; cases e
    subst h0
    have hl := hz.1
    have HL := Lib.hid hl
    clear hl hz
    go_enter Try.func24, Try.ntmps24
    go_wp2
    go_ret
    exact ⟨none, 0, rfl, ⟨HL.out, Nat.le_refl _, by simp, fun h => absurd h (by omega)⟩, Below.refl _ _⟩
  | some x =>
    obtain ⟨i0, hi, hz0, hz1, hz2⟩ := info_parts u8info
    have hcell : ∀ j u, (zs.map (Value.int .u8))[j]? = some u → w.cell? (x.add j) = some u := by
      intro j u hj
      have hjl : j < zs.length := by
        have := (List.getElem?_eq_some_iff.1 hj).1
        simpa using this
      obtain ⟨b, off, e, hb, hc⟩ := hz.2.2 (by rw [← hz.1]; omega)
      injection e with e
      subst e
      rw [Addr.add_lit, hc j (by rw [← hz.1]; exact hjl)]
      rw [List.getElem?_map, List.getElem?_eq_getElem hjl] at hj
      simp at hj
      rw [← hj, getD_get0 hjl]
    have hl : (zs.map (Value.int .u8)).length = n * 1 := by simp [hz.1]
    have HC := Lib.hid hcell
    have HL := Lib.hid hl
    clear hcell hl hz
    go_enter Try.func24, Try.ntmps24
    go_wp2_with (at_builtin; refine wpList_append_own _ rfl _ _ 50 rfl w.heap.size 5 i0 (.int .u8 0) 1 1 Try.underlying50 hi hz0 hz1 hz2 rfl (by decide) _ _ _ rfl (World.ownsRow_made w #[] 0 (Nat.le_refl _) (Nat.zero_le _) rfl) x n c (zs.map (Value.int .u8)) rfl ?qc1 ?qc2 ?qc3 ?qc4 ?qc5 ?qc6 ?_)
    case qc1 => exact HL.out
    case qc2 =>
      intro j u hj
      exact Lib.cell?_alloc_some _ (HC.out j u hj)
    case qc3 => intro u hu; obtain ⟨y, _, rfl⟩ := List.mem_map.1 hu; rfl
    case qc4 => unfold maxLen; omega
    case qc5 => omega
    case qc6 => simp
    intro v' w1 hown hgrow hnil
    go_wp2
    go_ret

    obtain ⟨A', c', rfl, ho⟩ := Own.of_row hown
    exact ⟨A', c', rfl, ho, ((Below.refl _ w).alloc (Nat.le_refl _) _).grown hgrow (by simp) (by intro k hk; simp [Value.ownBlock] at hk; omega)⟩
theorem i64info : (Try.prog.info? 3).map (fun i => (i.zero, i.size, i.bytes)) = some (some (.int .i64 0), 1, 8) := by kernel_rfl
theorem eq_nilI (w : World) (a : Option Addr) (n c n' c' : Nat) : (binOp .eql 51 (.slice a n c) (.slice none n' c')).run Try.prog w = .ok (.bool a.isNone) w := Lib.run_eql_slice_nil w _ _ a n c n' c' Try.underlying51

set_option maxHeartbeats 2000000 in
theorem cloneI_any (A : Option Addr) (n c : Nat) (zs : List Int) (w : World) (B : Nat) (hz : Row .i64 w B A n zs) (_ : B ≤ w.heap.size) (hbig : n ≤ 17592186044416) :
    Calls Try.prog 25 #[.slice A n c] w fun e w' => ∃ A' c', e = .returned (.slice A' n c') ∧ Own .i64 3 w' w.heap.size A' n c' zs ∧ Below w.heap.size w w' := by
  have q := eq_nilI
  cases A with
  | none =>
    have h0 : n = 0 := by
      rcases Nat.eq_zero_or_pos n with h | h
      · exact h
      · obtain ⟨_, _, e, _⟩ := hz.2.2 h; cases e
    subst h0
    have hl := hz.1
    have HL := Lib.hid hl
    clear hl hz
    go_enter Try.func25, Try.ntmps25
    go_wp2
    go_ret
    exact ⟨none, 0, rfl, ⟨HL.out, Nat.le_refl _, by simp, fun h => absurd h (by omega)⟩, Below.refl _ _⟩
  | some x =>
    obtain ⟨i0, hi, hz0, hz1, hz2⟩ := info_parts i64info
    have hcell : ∀ j u, (zs.map (Value.int .i64))[j]? = some u → w.cell? (x.add j) = some u := by
      intro j u hj
      have hjl : j < zs.length := by
        have := (List.getElem?_eq_some_iff.1 hj).1
        simpa using this
      obtain ⟨b, off, e, hb, hc⟩ := hz.2.2 (by rw [← hz.1]; omega)
      injection e with e
      subst e
      rw [Addr.add_lit, hc j (by rw [← hz.1]; exact hjl)]
      rw [List.getElem?_map, List.getElem?_eq_getElem hjl] at hj
      simp at hj
      rw [← hj, getD_get0 hjl]
    have hl : (zs.map (Value.int .i64)).length = n * 1 := by simp [hz.1]
    have HC := Lib.hid hcell
    have HL := Lib.hid hl
    clear hcell hl hz
    go_enter Try.func25, Try.ntmps25
    go_wp2_with (at_builtin; refine wpList_append_own _ rfl _ _ 51 rfl w.heap.size 3 i0 (.int .i64 0) 1 8 Try.underlying51 hi hz0 hz1 hz2 rfl (by decide) _ _ _ rfl (World.ownsRow_made w #[] 0 (Nat.le_refl _) (Nat.zero_le _) rfl) x n c (zs.map (Value.int .i64)) rfl ?qc1 ?qc2 ?qc3 ?qc4 ?qc5 ?qc6 ?_)
    case qc1 => exact HL.out
    case qc2 =>
      intro j u hj
      exact Lib.cell?_alloc_some _ (HC.out j u hj)
    case qc3 => intro u hu; obtain ⟨y, _, rfl⟩ := List.mem_map.1 hu; rfl
    case qc4 => unfold maxLen; omega
    case qc5 => omega
    case qc6 => simp
    intro v' w1 hown hgrow hnil
    go_wp2
    go_ret

    obtain ⟨A', c', rfl, ho⟩ := Own.of_row hown
    exact ⟨A', c', rfl, ho, ((Below.refl _ w).alloc (Nat.le_refl _) _).grown hgrow (by simp) (by intro k hk; simp [Value.ownBlock] at hk; omega)⟩

end Go.Proofs.Ytglnnplijienbaa
