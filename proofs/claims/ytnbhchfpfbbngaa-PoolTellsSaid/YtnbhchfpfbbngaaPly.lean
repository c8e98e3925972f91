/- The reference: MOf. -/
import Derived.Test.YtnbhchfpfbbngaaPlx
import Derived.Test.YtnbhchfpfbbngaaRegT
namespace Go.Proofs.Ytnbhchfpfbbngaa
open Go.ChangeShapes Go.WideShapes Go.ChangeAt Go.RowKit Go.Joins
set_option linter.unusedVariables false
set_option linter.unusedSimpArgs false
attribute [local go_sem] Oper.quiet Oper.quietAt Oper.quietUpon
section
variable {P : Program} {dst : Option Tmp} {x y : Operand} {type : TypeId} {pos : String} {after : Array Edge} {guard : Option (Nat × Bool)} {a : Act} {w : World} {T : TypeId} {u u' v : Value}
theorem ex_ld (hx : a.eval x = u) (h : (Instr.loadAt T u).run P w = .ok v w) : (execOp a.eval ⟨dst, .load T x, type, pos, after, guard⟩).run P w = .ok (.value v) w := by
  unfold execOp
  simp only [hx, Sem.run_bind, h, Result.andThen_ok, Sem.run_pure]
theorem ex_bd2 {i j : Nat} (hx : a.eval x = u) (hy : a.eval y = u') (h : (Instr.build T #[(i, u), (j, u')]).run P w = .ok v w) : (execOp a.eval ⟨dst, .build T #[(i, x), (j, y)], type, pos, after, guard⟩).run P w = .ok (.value v) w := by
  unfold execOp
  simp only [List.map_toArray, List.map_cons, List.map_nil, hx, hy, Sem.run_bind, h, Result.andThen_ok, Sem.run_pure]
end
def Sp.bvf (at_ B : Nat) (xs : List Blk) : Sp :=
  ⟨at_, fun v => ∃ A n c, v = .slice A n c, fun v w => Bv w v xs ∧ ∀ g, g < B → Far v g, ⟨.slice none 0 0, _, _, _, rfl⟩, fun _ _ _ h hb => ⟨h.1.below hb, h.2⟩⟩
/-- As GivesP1; the list lies in new memory. -/
def GivesPf (w : World) (q : Pl) (e : Ending) (w' : World) : Prop := ∃ cs, e = .returned (.agg cs) ∧ PlV w' cs q ∧ (∀ g, g < w.heap.size → ∀ v, cs[0]? = some v → Far v g) ∧ Below w.heap.size w w'
theorem mof_eq {r : Nat → Int} : (ofR r).f = canon fun n => r n == 0 := rfl
set_option maxHeartbeats 4000000 in
set_option maxRecDepth 100000 in
theorem mof_v {w : World} {rs : Array Value} {r : Nat → Int} (h : RfV rs r) :
    Calls Try.prog 29 #[.agg rs] w (GivesPf w (ofR r)) := by
  have hm := make_64
  have hA := (Below.refl w.heap.size w).alloc (Nat.le_refl _) (.cells rs 40)
  have hA2 := hA.alloc hA.size (.cells zP 42)
  have HW0 := Lib.hid (hA2.alloc hA2.size (.cells z64 4))
  have HE : Hid ((w.alloc (.cells rs 40)).heap.size = w.heap.size + 1) := Lib.hid (by simp)
  have HE2 : Hid (((w.alloc (.cells rs 40)).alloc (.cells zP 42)).heap.size = w.heap.size + 1 + 1) := Lib.hid (by simp)
  have hx1 : Bx ((w.alloc (.cells rs 40)).alloc (.cells zP 42)) (w.heap.size + 1) 42 zP := by rw [← HE.out]; exact Bx.new _ _ _
  have HX1 := Lib.hid (hx1.below ((Below.refl _ _).alloc (Nat.le_refl _) (.cells z64 4)))
  have HX0 := Lib.hid (((Bx.new w 40 rs).below ((Below.refl _ _).alloc (Nat.le_refl _) (.cells zP 42))).below ((Below.refl _ _).alloc (Nat.le_refl _) (.cells z64 4)))
  have HF0 : Hid (Fr (((w.alloc (.cells rs 40)).alloc (.cells zP 42)).alloc (.cells z64 4)) (w.heap.size + 1 + 1) (fun _ => false)) := Lib.hid (by rw [← HE2.out]; exact fr_new _)
  have HR := Lib.hid h
  have HBB := Lib.hid (fun (W : World) (g : Nat) (fl : Nat → Bool) (h : Fr W g fl) => bblocks_o h)
  have HXW : Hid (Bx (w.alloc (.cells rs 40)) w.heap.size 40 rs) := Lib.hid (Bx.new w 40 rs)
  clear h hA hA2 hx1
  go_enter Try.func29, Try.ntmps29
  go_wp2_with (first
    | (with_reducible refine alP ?_)
    | ((with_reducible refine ldRg w.heap.size 0 rs ?_ ?_ HX0.out (fun i v h => by rw [Nat.zero_add]; exact h) HR.out.size ?_); rfl; rfl))
  go_loopw [4, 5, 8] (fun _ _ i wr => ∃ k : Nat, k ≤ 64 ∧ i = .int .i64 k ∧ Hid (Fr wr (w.heap.size + 1 + 1) (fun m => decide (m < k) && (r m == 0))) ∧ Hid (Bx wr w.heap.size 40 rs) ∧ Hid (Bx wr (w.heap.size + 1) 42 zP) ∧ Hid (Below w.heap.size w wr)) (fun _ _ i _ => 64 - (intOf i).toNat)
  case atStart => exact ⟨0, by omega, rfl, Lib.hid (HF0.out.congr fun i hi => by simp), HX0, HX1, HW0⟩
  case round =>
    obtain ⟨k, hk, rfl, HF, HA0, HA1, HB⟩ := hrel
    by_cases hlt : k < 64
    · have hidx := run_idxR HR.out hlt
      obtain ⟨old, hfc⟩ : ∃ b : Bool, wr.cell? ⟨w.heap.size + 1 + 1, k, none⟩ = some (.bool b) := ⟨_, HF.out.at_ k hlt⟩
      have hff := HF.out.free k hlt
      have hk0 : (0 : Int) ≤ (k : Int) := by omega
      have hk64 : (k : Int) < 64 := by omega
      have HST := Lib.hid (fun (b : Bool) (hb : (r k == 0) = b) => (HF.out.set hlt b).congr (fl' := fun m => decide (m < k + 1) && (r m == 0)) fun i hi => by
        unfold upd
        by_cases e : i = k
        · subst e
          rw [if_pos rfl, hb, decide_eq_true (Nat.lt_succ_self _)]; rfl
        · show (if i = k then b else (decide (i < k) && (r i == 0))) = (decide (i < k + 1) && (r i == 0))
          rw [if_neg e, show decide (i < k) = decide (i < k + 1) from decide_eq_decide.2 (by omega)])
      clear hm
      obtain ⟨rk, hrk⟩ : ∃ x, x = r k := ⟨_, rfl⟩
      rw [← hrk] at hidx HST
      clear hrk
      go_wp2
      go_roundw
      case rel => exact ⟨k + 1, by omega, by go_num, Lib.hid (HST.out _ rfl), Lib.hid (HA0.out.other (by omega) _ _), Lib.hid (HA1.out.other (by omega) _ _), Lib.hid (HB.out.setCell (p := ⟨w.heap.size + 1 + 1, k, none⟩) (by show w.heap.size ≤ w.heap.size + 1 + 1; omega) _)⟩
      case measure => simp [intOf]; omega
    · have hk64 : k = 64 := by omega
      subst hk64
      have HFN : Hid (Fr wr (w.heap.size + 1 + 1) (fun m => r m == 0)) := Lib.hid (HF.out.congr fun i hi => by rw [decide_eq_true hi, Bool.true_and])
      have HBB2 : Hid (∀ W, Below wr.heap.size wr W → Calls Try.prog 39 #[.slice (some ⟨w.heap.size + 1 + 1, 0, none⟩) 64 64] W fun e w' => ∃ v, e = .returned v ∧ Bv w' v (canon fun m => r m == 0) ∧ (∀ g, g < wr.heap.size → Far v g) ∧ Below W.heap.size W w') := Lib.hid (fun W hb => (HBB.out W _ _ (HFN.out.below hb HFN.out.lt)).mono fun e w' ⟨v, h1, h2, h3, h4⟩ => ⟨v, h1, h2, fun g hg => h3 g (Nat.lt_of_lt_of_le hg hb.size), h4⟩)
      have hsz := HB.out.size
      have hz1 : w.heap.size + 1 < wr.heap.size := HA1.out.lt
      clear hm
      go_wp2
      refine wp_region_rel_tail 4 [Sp.bvf 1 wr.heap.size (canon fun m => r m == 0)] (by kernel_rfl) (by kernel_rfl) (by kernel_rfl) ?_
      intro V hV
      obtain ⟨A1, n1, c1, e1⟩ : ∃ A n c, V 1 = .slice A n c := hV 1
      simp only [List.take_succ_cons, List.take_zero, List.drop_succ_cons, List.drop_zero]
      repeat (refine rel_quiet rfl rfl ?_; go_big_quiet_step (fail); refine wpQuiet_nil ?_)
      refine rel_special (Sp.bvf 1 wr.heap.size (canon fun m => r m == 0)) (by kernel_rfl) rfl (fun w' hb hf => ?_) ?_
      · refine becomes_call (f := 39) (args := #[.slice (some ⟨w.heap.size + 1 + 1, 0, none⟩) 64 64]) ?_ ((HBB2.out w' hb).mono ?_)
        · go_simp
        · rintro e w'' ⟨v, rfl, hv, hf1, hb2⟩
          have hv2 := hv
          obtain ⟨A, n, c, rfl, _⟩ := hv2
          exact ⟨_, rfl, hb2, ⟨A, n, c, rfl⟩, hv, hf1⟩
      go_big_quiet_step (fail)
      refine wpQuiet_nil ?_
      refine rel_fact (.agg rs) (by kernel_rfl) rfl (fun w' hb hf => ?_) ?_
      · have hbx := HA0.out.below hb
        have := run_loadAt_mid (P := Try.prog) w' w.heap.size 0 40 rs.toList _ (fun j v hv => by rw [Nat.zero_add, hbx.cell]; simpa using hv) Try.underlying40 rfl (by rw [infoR, Array.length_toList, HR.out.size])
        rw [Array.toArray_toList] at this
        exact ex_ld rfl this
      go_big_quiet_step (fail)
      refine wpQuiet_nil ?_
      simp only [e1]
      refine rel_fact (.agg (mkP (.slice A1 n1 c1) rs)) (by kernel_rfl) rfl (fun w' hb hf => ?_) ?_
      · exact ex_bd2 rfl rfl (run_bdP2 A1 n1 c1 HR.out.size w')
      go_big_quiet_step (fail)
      refine wpQuiet_nil ?_
      intro w3 hb3 hf
      obtain ⟨hv3, hf3⟩ := hf _ (List.Mem.head _)
      have HM := Lib.hid (mkP_v hv3 HR.out)
      have X3 := Lib.hid (HA1.out.below hb3)
      have HFR := Lib.hid (hf3 (w.heap.size + 1) hz1)
      have HFA : Hid (∀ g, g < w.heap.size → ∀ v, (mkP (.slice A1 n1 c1) rs)[0]? = some v → Far v g) := Lib.hid (fun g hg => mkP_far (hf3 g (by omega)))
      have HB3 := Lib.hid (HB.out.trans (hb3.mono hsz))
      clear hv3 hf3 hf hb3
      refine stPg (w.heap.size + 1) (mkP (.slice A1 n1 c1) rs) rfl rfl X3.out zP_size HM.out.size HM.out.one ?_
      go_wp2
      try simp only [Exit.inBlock, Exit.then]
      refine bodyPost_ret (v := .agg (mkP (.slice A1 n1 c1) rs)) ?_ rfl ⟨_, rfl, HM.out.row (mkP_far HFR.out) _, HFA.out, below_setRow HB3.out (by omega) _⟩
      rw [results_cell1 rfl]
      simp [asAddr, Result.andThen, Act.put, ldvP (X3.out.row _) HM.out.size]
end Go.Proofs.Ytnbhchfpfbbngaa
