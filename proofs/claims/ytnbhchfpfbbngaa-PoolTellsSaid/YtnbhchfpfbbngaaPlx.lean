/- The reference's pools: SamePool, MOf, MRight. -/
import Derived.Test.YtnbhchfpfbbngaaPlv
import Derived.Test.YtnbhchfpfbbngaaBdz
import Derived.DeepKeys
import Derived.DataBytes
namespace Go.Proofs.Ytnbhchfpfbbngaa
open Go.ChangeShapes Go.WideShapes Go.ChangeAt Go.RowKit Go.Joins
set_option linter.unusedVariables false
set_option linter.unusedSimpArgs false
section
variable {ops : Array Oper} {rest : List Oper} {dst : Option Tmp} {x y : Operand} {type : TypeId} {pos : String} {after : Array Edge} {guard : Option (Nat × Bool)} {a : Act} {w : World} {Q : Exit → Act → World → Prop}
theorem ldPg {T : TypeId} {cs : Array Value} (g : Nat) (hx : a.eval x = .pointer (some ⟨g, 0, none⟩)) (hw : Region.wanted ⟨dst, .load 42 x, type, pos, after, guard⟩ (yielded ops a.tmps) = true) (hc : Bx w g T cs) (hn : cs.size = 65)
    (h : wpList Try.prog ops Q rest (a.put dst (.agg cs)) w) : wpList Try.prog ops Q (⟨dst, .load 42 x, type, pos, after, guard⟩ :: rest) a w := by
  have h' : wpList Try.prog ops Q rest (a.put dst (.agg cs.toList.toArray)) w := by simpa using h
  refine wpList_step fun K hK => ?_
  simp only [hw, if_true]
  exact wp_load_mid 42 x rfl g 0 hx cs.toList _ (fun j v hv => by rw [Nat.zero_add, hc.cell]; simpa using hv) Try.underlying42 rfl (by rw [infoP, Array.length_toList, hn]) (hK _ _ h')
theorem ldRg {T : TypeId} {cs : Array Value} (g o : Nat) (rs : Array Value) (hx : a.eval x = .pointer (some ⟨g, o, none⟩)) (hw : Region.wanted ⟨dst, .load 40 x, type, pos, after, guard⟩ (yielded ops a.tmps) = true) (hc : Bx w g T cs) (hr : ∀ i v, rs[i]? = some v → cs[o + i]? = some v) (hn : rs.size = 64)
    (h : wpList Try.prog ops Q rest (a.put dst (.agg rs)) w) : wpList Try.prog ops Q (⟨dst, .load 40 x, type, pos, after, guard⟩ :: rest) a w := by
  have h' : wpList Try.prog ops Q rest (a.put dst (.agg rs.toList.toArray)) w := by simpa using h
  refine wpList_step fun K hK => ?_
  simp only [hw, if_true]
  exact wp_load_mid 40 x rfl g o hx rs.toList _ (fun j v hv => by rw [hc.cell]; exact hr j v (by simpa using hv)) Try.underlying40 rfl (by rw [infoR, Array.length_toList, hn]) (hK _ _ h')
end
theorem ktR : Try.prog.keyTypeAt 2 40 = true := by kernel_rfl
theorem coI : Try.prog.cellsOf 3 = 1 := by kernel_rfl
theorem coR : Try.prog.cellsOf 40 = 64 := by kernel_rfl
theorem litI (D : Nat) (z : Int) (hz : I64 z) : Try.prog.keyLits (D + 1) 3 [.int .i64 z] = some [.int .i64 z] := by
  unfold Program.keyLits
  simp [Try.underlying3]
  exact WalkArith.wf_i64 hz
theorem litsR {rs : Array Value} {r : Nat → Int} (h : RfV rs r) (hr : ∀ i, i < 64 → I64 (r i)) : ∃ l, Try.prog.keyLits 2 40 rs.toList = some l := by
  unfold Program.keyLits
  simp only [Try.underlying40]
  rw [if_pos (by rw [coR, Array.length_toList, h.size]), mapM_some_of_forall (g := fun i => [Lit.int .i64 (r i)]) (List.range 64) (fun i hi => ?_)]
  · exact ⟨_, rfl⟩
  · rw [List.mem_range] at hi
    rw [coI, Nat.mul_one]
    have hl : i < rs.toList.length := by rw [Array.length_toList, h.size]; exact hi
    have hv := h.at_ i hi
    rw [List.drop_eq_getElem_cons hl]
    have e : rs.toList[i] = .int .i64 (r i) := by
      rw [Array.getElem?_eq_getElem (by rw [h.size]; exact hi)] at hv
      injection hv with hv
    rw [e]
    exact litI 0 _ (hr i hi)
theorem formR {rs : Array Value} {r : Nat → Int} (h : RfV rs r) : (Value.agg rs).formed Try.prog 40 = true := by
  unfold Value.formed
  simp only [Try.underlying40]
  rw [coR, h.size]; rfl
theorem run_eqR {rs : Array Value} {r : Nat → Int} (h : RfV rs r) (hr : ∀ i, i < 64 → I64 (r i)) (w : World) : (Op.equalIn 10000 40 (.agg rs) (.agg rs)).run Try.prog w = .ok true w := by
  obtain ⟨l, hl⟩ := litsR h hr
  obtain ⟨b, h1, h2⟩ := run_equalIn_deep (P := Try.prog) 9998 2 40 ktR w 2 2 (.agg rs) (.agg rs) l l (formR h) (formR h) hl hl
  rw [h1, h2.2 rfl]
theorem rfv_eq {rs rs' : Array Value} {r r' : Nat → Int} (h : RfV rs r) (h' : RfV rs' r') (e : ∀ i, i < 64 → r i = r' i) : rs = rs' := by
  apply Array.ext_getElem?
  intro i
  by_cases hi : i < 64
  · rw [h.at_ i hi, h'.at_ i hi, e i hi]
  · rw [Array.getElem?_eq_none (by rw [h.size]; omega), Array.getElem?_eq_none (by rw [h'.size]; omega)]
theorem ext_at (cs : Array Value) : ∀ i v, (cs.extract 1 65)[i]? = some v → cs[1 + i]? = some v := fun i v hv => by
  rw [Array.getElem?_extract] at hv
  split at hv
  · exact hv
  · cases hv
set_option maxHeartbeats 2000000 in
set_option maxRecDepth 100000 in
theorem samePool_v {w : World} {cs cs' : Array Value} {p q : Pl} (h : PlV w cs p) (h' : PlV w cs' q) (ef : p.f = q.f) (er : ∀ i, i < 64 → p.r i = q.r i) (hfi : ∀ i, i < 64 → I64 (p.r i)) :
    Calls Try.prog 25 #[.agg cs, .agg cs'] w fun e w' => e = .returned (.bool true) ∧ Below w.heap.size w w' := by
  have hA := (Below.refl w.heap.size w).alloc (Nat.le_refl _) (.cells cs 42)
  have HW0 := Lib.hid (hA.alloc hA.size (.cells cs' 42))
  have HE : Hid ((w.alloc (.cells cs 42)).heap.size = w.heap.size + 1) := Lib.hid (by simp)
  have HX1 : Hid (Bx ((w.alloc (.cells cs 42)).alloc (.cells cs' 42)) (w.heap.size + 1) 42 cs') := Lib.hid (by rw [← HE.out]; exact Bx.new _ _ _)
  have HX0 := Lib.hid ((Bx.new w 42 cs).below ((Below.refl _ _).alloc (Nat.le_refl _) (.cells cs' 42)))
  obtain ⟨v, hv0, hbv⟩ := h.list
  obtain ⟨u, hu0, hbu⟩ := h'.list
  have hrr : cs.extract 1 65 = cs'.extract 1 65 := rfv_eq h.refs h'.refs er
  have HR := Lib.hid h.refs
  obtain ⟨rs, hrs⟩ : ∃ rs, rs = cs.extract 1 65 := ⟨_, rfl⟩
  have HEX : Hid (∀ i v, rs[i]? = some v → cs[1 + i]? = some v) := Lib.hid (by rw [hrs]; exact ext_at cs)
  have HEX' : Hid (∀ i v, rs[i]? = some v → cs'[1 + i]? = some v) := Lib.hid (by rw [hrs, hrr]; exact ext_at cs')
  rw [← hrs] at HR
  clear hrs hrr
  have heqR := run_eqR HR.out hfi
  rw [← ef] at hbu
  have heq := equal_same (hbv.below HW0.out) (hbu.below HW0.out)
  obtain ⟨A, n, c, rfl, _⟩ := hbv
  obtain ⟨A', n', c', rfl, _⟩ := hbu
  clear h h' ef er hA hfi
  go_enter Try.func25, Try.ntmps25
  go_wp2_with (first
    | ((with_reducible refine ldRg w.heap.size 1 rs ?_ ?_ X0.out HEX.out HR.out.size ?_); rfl; rfl)
    | ((with_reducible refine ldRg (w.heap.size + 1) 1 rs ?_ ?_ X1.out HEX'.out HR.out.size ?_); rfl; rfl)
    | (go_at_call 13
       refine heq.mono ?_
       rintro e w1 ⟨rfl, hb1⟩
       have K1 := Lib.hid (HW0.out.trans (hb1.mono HW0.out.size))
       have X0 := Lib.hid (HX0.out.below hb1)
       have X1 := Lib.hid (HX1.out.below hb1)
       clear hb1))
  go_ret
  exact ⟨by first | rfl | simp, K1.out⟩
end Go.Proofs.Ytnbhchfpfbbngaa
