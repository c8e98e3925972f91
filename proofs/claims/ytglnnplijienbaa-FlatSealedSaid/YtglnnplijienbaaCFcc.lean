/- slices.Concat of two slices of operations. -/
import Derived.Test.YtglnnplijienbaaCFcr
import Derived.Lib.AppendZerosOnto
namespace Go.Proofs.Ytglnnplijienbaa
open Go.ChangeShapes Go.WideShapes Go.ChangeAt Go.RowKit Go.Joins Go.Sort
set_option linter.unusedVariables false
set_option linter.unusedSimpArgs false
set_option maxRecDepth 100000
/-- Room for so many: a new row, of no elements yet. -/
def Room (w : World) (B : Nat) (v : Value) (k : Nat) : Prop := (k = 0 ∧ v = .slice none 0 0) ∨ ∃ g cap, v = .slice (some ⟨g, 0, none⟩) 0 cap ∧ k ≤ cap ∧ cap ≤ maxLen ∧ B ≤ g ∧ ∃ cur, Bx w g 43 cur ∧ cur.size = cap * 12
/-- append, by what it gives. -/
theorem append_run {P : Program} {ops : Array Oper} {rest : List Oper} {o : Oper} {a : Act} {w w' : World} {Q : Exit → Act → World → Prop} (hgd : o.guard = none) (s x : Operand) {t1 t2 : TypeId} (ho : o.op = .call { callee := .builtin .append, args := #[s, x], argTypes := #[t1, t2] }) {v1 v2 v : Value} (hs : a.eval s = v1) (hx : a.eval x = v2)
    (hr : (Builtin.append_ #[t1, t2] o.type #[v1, v2]).run P w = .ok v w') (h : wpList P ops Q rest (a.put o.dst v) w') : wpList P ops Q (o :: rest) a w := by
  refine wpList_plain hgd fun K hK => ?_
  unfold Oper.wp execOp
  simp only [ho, resolve, invoke, builtin, Sem.run_bind, Sem.run_pure, Result.andThen_ok, List.map_toArray, List.map_cons, List.map_nil, hs, hx, hr]
  exact hK _ _ h
theorem next_nil (k : Nat) : Builtin.nextslicecap k 0 = k := by
  unfold Builtin.nextslicecap
  simp
  intro h; omega
set_option maxHeartbeats 4000000 in
theorem grow_O (k : Nat) (hk : k ≤ 2932031007402) (w : World) :
    Calls Try.prog 29 #[.slice none 0 0, .int .i64 (k : Int)] w fun e w' => ∃ v, e = .returned v ∧ Room w' w.heap.size v k ∧ Below w.heap.size w w' := by
  obtain ⟨i0, hi, hz0, hz1, hz2⟩ := info_parts info_O
  rcases Nat.eq_zero_or_pos k with h0 | h0
  · subst h0
    clear hi hz0 hz1 hz2
    go_enter Try.func29, Try.ntmps29
    go_wp2
    go_ret
    exact ⟨_, rfl, .inl ⟨rfl, rfl⟩, Below.refl _ _⟩
  · have hrz : ∀ ty, (Builtin.append_ #[22, 3] ty #[.slice none 0 0, .int .i64 (k : Int)]).run Try.prog w =
      .ok (.slice (some ⟨w.heap.size, 0, none⟩) (0 + k) (grownCap w (0 + k) 0 43)) (w.drew.alloc (.cells (([] : List Value).toArray ++ Builtin.zeroCells (Value.agg #[.int .i64 0, .int .i64 0, .int .i64 0, .int .i64 0, .int .i64 0, .int .i64 0, .bool false, .int .i64 0, .int .i64 0, .int .i64 0, .int .i64 0, .int .i64 0]).cells k ++ Builtin.zeroCells (Value.agg #[.int .i64 0, .int .i64 0, .int .i64 0, .int .i64 0, .int .i64 0, .int .i64 0, .bool false, .int .i64 0, .int .i64 0, .int .i64 0, .int .i64 0, .int .i64 0]).cells (grownCap w (0 + k) 0 43 - (0 + k))) 43)) := fun ty =>
      Lib.run_append_grow_zeros w 22 3 ty 43 i0 _ .i64 .i64 Try.underlying22 Try.underlying3 hi hz0 none 0 0 [] (run_firstCells_none w.drew i0.size 0 0 0) k h0 (by omega) (by omega) (by omega) (by rw [hz2]; omega) (by rw [Nat.zero_add, next_nil, hz2]; omega)
    rw [Nat.zero_add] at hrz
    have hcap := grownCap_ge w k 0 43
    have hcm := grownCap_le_maxLen w k 0 43 (by unfold maxLen; omega)
    generalize grownCap w k 0 43 = G at *
    have hsz : (([] : List Value).toArray ++ Builtin.zeroCells (Value.agg #[.int .i64 0, .int .i64 0, .int .i64 0, .int .i64 0, .int .i64 0, .int .i64 0, .bool false, .int .i64 0, .int .i64 0, .int .i64 0, .int .i64 0, .int .i64 0]).cells k ++ Builtin.zeroCells (Value.agg #[.int .i64 0, .int .i64 0, .int .i64 0, .int .i64 0, .int .i64 0, .int .i64 0, .bool false, .int .i64 0, .int .i64 0, .int .i64 0, .int .i64 0, .int .i64 0]).cells (G - k)).size = G * 12 := by
      simp only [Array.size_append, List.size_toArray, List.length_nil, size_zeroCells]
      rw [show (Value.agg #[.int .i64 0, .int .i64 0, .int .i64 0, .int .i64 0, .int .i64 0, .int .i64 0, .bool false, .int .i64 0, .int .i64 0, .int .i64 0, .int .i64 0, .int .i64 0]).cells.size = 12 from rfl]
      omega
    generalize (([] : List Value).toArray ++ Builtin.zeroCells (Value.agg #[.int .i64 0, .int .i64 0, .int .i64 0, .int .i64 0, .int .i64 0, .int .i64 0, .bool false, .int .i64 0, .int .i64 0, .int .i64 0, .int .i64 0, .int .i64 0]).cells k ++ Builtin.zeroCells (Value.agg #[.int .i64 0, .int .i64 0, .int .i64 0, .int .i64 0, .int .i64 0, .int .i64 0, .bool false, .int .i64 0, .int .i64 0, .int .i64 0, .int .i64 0, .int .i64 0]).cells (G - k)) = cur at *
    have HS := Lib.hid hsz
    have HC := Lib.hid hcap
    have HM := Lib.hid hcm
    have g0 : ¬ ((k : Int) < 0) := by omega
    have g1 : (0 : Int) < (k : Int) := by omega
    have g2 : G ≤ 9223372036854775807 := by unfold maxLen at hcm; omega
    clear hsz hcm hi hz0 hz1 hz2
    go_enter Try.func29, Try.ntmps29
    have HRZ := Lib.hid hrz
    clear hrz
    go_wp2_with (at_builtin; refine append_run rfl _ _ rfl rfl rfl (HRZ.out _) ?_)
    go_ret
    exact ⟨_, rfl, .inr ⟨w.heap.size, G, rfl, HC.out, HM.out, Nat.le_refl _, cur, Bx.new _ _ _, HS.out⟩, (below1 _ _).trans (below_drew _ _)⟩
/-- A row with room for k, that holds xs. -/
def Rm (w : World) (B : Nat) (v : Value) (xs : List Fop) (k : Nat) : Prop := (k = 0 ∧ v = .slice none 0 0 ∧ xs = []) ∨ ∃ g cap, v = .slice (some ⟨g, 0, none⟩) xs.length cap ∧ k ≤ cap ∧ Os fO 12 43 w B v xs
theorem Rm.of {w : World} {B : Nat} {v : Value} {k : Nat} (h : Room w B v k) : Rm w B v [] k := by
  rcases h with ⟨h1, h2⟩ | ⟨g, cap, rfl, h1, h2, h3, cur, h4, h5⟩
  · exact .inl ⟨h1, h2, rfl⟩
  · exact .inr ⟨g, cap, rfl, h1, rfl, .inr ⟨g, cap, cur, rfl, h3, h4, Nat.zero_le _, h2, h5, by simp⟩⟩
theorem Rm.os {w : World} {B : Nat} {v : Value} {xs : List Fop} {k : Nat} (h : Rm w B v xs k) : Os fO 12 43 w B v xs := by
  rcases h with ⟨_, rfl, rfl⟩ | ⟨g, cap, rfl, _, h⟩
  · exact Os.nil
  · exact h
theorem Rm.below {w w' : World} {B : Nat} {v : Value} {xs : List Fop} {k : Nat} (h : Rm w B v xs k) (hb : Below w.heap.size w w') : Rm w' B v xs k := by
  rcases h with ⟨h1, h2, h3⟩ | ⟨g, cap, e, h1, h2⟩
  · exact .inl ⟨h1, h2, h3⟩
  · exact .inr ⟨g, cap, e, h1, h2.below hb (Nat.le_refl _)⟩
theorem run_append_none {P : Program} (w : World) (t ty e : TypeId) (i : TypeInfo) (ht : P.underlying t = some (.slice e)) (hi : P.info? e = some i) (A A2 : Option Addr) (n c : Nat) (hn : n ≤ c) (c' : Nat) : (Builtin.append_ #[t, t] ty #[.slice A n c, .slice A2 0 c']).run P w = .ok (.slice A n c) w := by
  cases A <;> cases A2 <;> simp [Builtin.append_, run_underlying ht, sizeOf, typeInfo, hi, Builtin.lenOf, Builtin.firstCells, hn, storeCells, loadCells, loadCellsFrom]
theorem rm_append {w : World} {B : Nat} {v : Value} {xs ys : List Fop} {k : Nat} (h : Rm w B v xs k) {A : Option Addr} {n c B' : Nat} (hz : Rw fO 12 w B' A n ys) (hk : xs.length + n ≤ k) (ty : TypeId) :
    ∃ v' w', (Builtin.append_ #[22, 22] ty #[v, .slice A n c]).run Try.prog w = .ok v' w' ∧ Rm w' B v' (xs ++ ys) k ∧ Below B w w' ∧ KeepT (fun T => T ≠ 43) w w' := by
  obtain ⟨i0, hi, hz0, hz1, hz2⟩ := info_parts info_O
  rcases Nat.eq_zero_or_pos n with h0 | h0
  · subst h0
    have hy : ys = [] := List.eq_nil_of_length_eq_zero hz.1
    subst hy
    rw [List.append_nil]
    have hf : ∃ A' n' c', v = .slice A' n' c' ∧ n' ≤ c' := by
      rcases h with ⟨_, rfl, _⟩ | ⟨g, cap, rfl, hc, ho⟩
      · exact ⟨none, 0, 0, rfl, Nat.le_refl _⟩
      · exact ⟨_, _, _, rfl, by omega⟩
    obtain ⟨A', n', c', rfl, hn⟩ := hf
    exact ⟨_, w, run_append_none w _ ty _ i0 Try.underlying22 hi A' A n' c' hn c, h, Below.refl _ _, KeepT.refl⟩
  · rcases h with ⟨rfl, _, _⟩ | ⟨g, cap, rfl, hc, ho⟩
    · omega
    · obtain ⟨b, off, rfl, _⟩ := hz.open h0
      obtain ⟨hl, hcell⟩ := Rw.cells fO_len (by decide) hz
      obtain ⟨g', cur, e, _, hg, hh, hn, hm, hcs, hx⟩ := ho.inv
      injection e with e
      subst e
      have hyl := hz.1
      have hxl : (xs.flatMap fO).length = xs.length * 12 := flat_len fO_len xs
      have hyf : (ys.flatMap fO).length = n * 12 := by rw [flat_len fO_len, hyl]
      have hbd : xs.length * 12 + n * 12 ≤ cap * 12 := by rw [← Nat.add_mul]; exact Nat.mul_le_mul_right _ (by omega)
      have hr := run_append_room (P := Try.prog) w 22 ty 43 i0 Try.underlying22 hi g xs.length cap cur hh ⟨b, off, none⟩ n c (ys.flatMap fO) (by rw [hyf, hz1]) hcell (fO_one ys) (by omega) (by rw [hz1, hyf, hcs]; exact hbd)
      rw [hz1] at hr
      refine ⟨_, _, hr, .inr ⟨g, cap, by rw [List.length_append, hyl], hc, ?_⟩, below_setRow (Below.refl _ _) hg _, fun g' T cs hT hb => hb.orow (by rintro rfl; exact hT (bx_type hb hh).1) _⟩
      have hcl : cur.toList.length = cap * 12 := by rw [Array.length_toList]; exact hcs
      have hl2 : (xs ++ ys).length = xs.length + n := by rw [List.length_append, hyl]
      have := Os.mk (f := fO) (sz := 12) (T := 43) (xs := xs ++ ys) (c := cap) (base := B) hg (setRow_heap w g cur (cur.toList.take (xs.length * 12) ++ ys.flatMap fO ++ cur.toList.drop (xs.length * 12 + (ys.flatMap fO).length)).toArray _ (0, 0) hh) (by rw [hl2]; omega) hm (by
        simp only [List.size_toArray, List.length_append, List.length_take, List.length_drop, hyf, hcl]; omega) fO_len (by
        rw [hl2, hx, List.flatMap_append, Nat.add_mul]
        have : (xs.flatMap fO ++ ys.flatMap fO).length = xs.length * 12 + n * 12 := by rw [List.length_append, hxl, hyf]
        rw [← this]
        exact List.take_left)
      rwa [hl2] at this
set_option maxHeartbeats 8000000 in
theorem concat_O (A1 A2 : Option Addr) (n1 c1 n2 c2 : Nat) (xs ys : List Fop) (w : World) (b : Nat) {T : TypeId} (h1 : Rw fO 12 w w.heap.size A1 n1 xs) (h2 : Rw fO 12 w w.heap.size A2 n2 ys) (hb : Bx w b T #[.slice A1 n1 c1, .slice A2 n2 c2]) (m1 : n1 ≤ 1466015503701) (m2 : n2 ≤ 1466015503701) :
    Calls Try.prog 19 #[.slice (some ⟨b, 0, none⟩) 2 2] w fun e w' => ∃ v, e = .returned v ∧ Os fO 12 43 w' w.heap.size v (xs ++ ys) ∧ Below w.heap.size w w' := by
  have H1 := Lib.hid h1
  have H2 := Lib.hid h2
  have HB := Lib.hid hb
  have c0 : w.cell? ⟨b, 0, none⟩ = some (.slice A1 n1 c1) := by rw [hb.cell]; rfl
  have c1_ : w.cell? ⟨b, 1, none⟩ = some (.slice A2 n2 c2) := by rw [hb.cell]; rfl
  have lb := hb.lt
  have g1 : ¬ ((n1 : Int) < 0) := by omega
  have g2 : ¬ ((n1 : Int) + (n2 : Int) < 0) := by omega
  have g3 : IntKind.i64.wrap ((n1 : Int) + (n2 : Int)) = (n1 : Int) + (n2 : Int) := by rw [IntKind.wrap_i64]; omega
  have HGR := Lib.hid (fun W => grow_O (n1 + n2) (by omega) W)
  have hcast : ((n1 : Int) + (n2 : Int)) = ((n1 + n2 : Nat) : Int) := by omega
  have HCA := Lib.hid hcast
  clear h1 h2 hb hcast
  go_enter Try.func19, Try.ntmps19
  go_wp2
  refine wp_loop_rounds 3 ?_
  repeat any_goals (rw [rounds_succ]; go_wp2_with (go_at_call 29; rw [HCA.out]; refine (HGR.out w).mono ?_; rintro e w1 ⟨v1, rfl, hr1, hb1⟩))
  have HR1 := Lib.hid (Rm.of hr1)
  have HB1 := Lib.hid hb1
  have d0 : w1.cell? ⟨b, 0, none⟩ = some (.slice A1 n1 c1) := (hb1.cell (p := ⟨b, 0, none⟩) lb).trans c0
  have d1 : w1.cell? ⟨b, 1, none⟩ = some (.slice A2 n2 c2) := (hb1.cell (p := ⟨b, 1, none⟩) lb).trans c1_
  have lb1 : b < w1.heap.size := Nat.lt_of_lt_of_le lb hb1.size
  obtain ⟨v2, w2, hr2, hm2, hb2, _⟩ := rm_append (ys := xs) HR1.out (H1.out.on hb1 (Nat.le_refl _)) (by simp) 22
  have HA2 := Lib.hid hr2
  have HR2 := Lib.hid hm2
  have HB2 := Lib.hid (hb1.trans hb2)
  have e0 : w2.cell? ⟨b, 0, none⟩ = some (.slice A1 n1 c1) := (HB2.out.cell (p := ⟨b, 0, none⟩) lb).trans c0
  have e1 : w2.cell? ⟨b, 1, none⟩ = some (.slice A2 n2 c2) := (HB2.out.cell (p := ⟨b, 1, none⟩) lb).trans c1_
  have lb2 : b < w2.heap.size := Nat.lt_of_lt_of_le lb HB2.out.size
  obtain ⟨v3, w3, hr3, hm3, hb3, _⟩ := rm_append (ys := ys) HR2.out (H2.out.on HB2.out (Nat.le_refl _)) (by simp [H1.out.1]) 22
  have HA3 := Lib.hid hr3
  have HR3 := Lib.hid hm3
  have HB3 := Lib.hid (HB2.out.trans hb3)
  have f0 : w3.cell? ⟨b, 0, none⟩ = some (.slice A1 n1 c1) := (HB3.out.cell (p := ⟨b, 0, none⟩) lb).trans c0
  have lb3 : b < w3.heap.size := Nat.lt_of_lt_of_le lb HB3.out.size
  simp only [List.nil_append] at HR3
  go_wp2
  refine wp_loop_rounds 3 ?_
  rw [rounds_succ]
  go_wp2_with (at_builtin; refine append_run rfl _ _ rfl rfl rfl HA2.out ?_)
  rw [rounds_succ]
  go_wp2_with (at_builtin; refine append_run rfl _ _ rfl rfl rfl HA3.out ?_)
  rw [rounds_succ]
  go_wp2
  go_ret
  exact ⟨v3, rfl, HR3.out.os, HB3.out⟩
end Go.Proofs.Ytglnnplijienbaa
