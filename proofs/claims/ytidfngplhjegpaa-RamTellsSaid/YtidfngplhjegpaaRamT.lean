/- RamTells: its walk. -/
import Derived.Test.YtidfngplhjegpaaRamN
namespace Go.Proofs.Ytidfngplhjegpaa
open Go.RowKit Go.Sort
set_option linter.unusedVariables false
attribute [local go_sem] Oper.quiet Oper.quietAt Oper.quietUpon

set_option maxHeartbeats 4000000 in
theorem ramTells_1 {w : World} (A : Option Addr) (len c : Nat) (zs : List Int) (hz : Row .u8 w w.heap.size A len zs) (hwf : Bytes zs) (hl : len ≤ 140737488355328) (p n v : Int) (p1 : p ≤ 9223372036854775807) (x : Int) (hx : Hid (x = frameF p)) (hcase : p < 0 ∧ x = -1 ∨ 64 ≤ p ∧ x = -1 ∨ 0 ≤ p ∧ p < 64 ∧ x = 64 * p) :
    Calls Try.prog 5 #[.slice A len c, .int .i64 p, .int .i64 n, .int .i64 v] w fun e w' => e = .returned (.bool true) ∧ Below w.heap.size w w' := by
  have HZ := Lib.hid hz
  have HB := Lib.hid hwf
  clear hz hwf
  rcases hcase with ⟨h, rfl⟩ | ⟨h, rfl⟩ | ⟨h, h', rfl⟩
  all_goals
    go_enter Try.func5, Try.ntmps5
    go_wp2_with fail
    refine (rget_any A len c zs p n _ w.heap.size HZ.out HB.out hl).mono ?_
    rintro e w1 ⟨rfl, hw1⟩
    rw [hw1]
    clear hw1 w1
    go_wp2_with fail
    refine (aget_any A len c zs p n _ w.heap.size HZ.out HB.out hl p1).mono ?_
    rintro e w1 ⟨rfl, hw1⟩
    rw [hw1]
    clear hw1 w1
    go_wp2_with fail
    refine (rPut_any A len c zs p n v _ w.heap.size HZ.out (Nat.le_refl _) hl).mono ?_
    rintro e w1 ⟨A1, n1, c1, rfl, ho1, hb1⟩
    have HO1 := Lib.hid ho1
    have hz1 := hb1.size
    clear ho1
    go_wp2_with fail
    refine (aPut_any A len c zs p n v _ w.heap.size (HZ.out.below hb1) HB.out hz1 hl p1).mono ?_
    rintro e w2 ⟨A2, n2, c2, rfl, ho2, hb2⟩
    have hz2 := hb2.size
    have s3 := conv_grown (c := c1) (HO1.out.row.below hb2) hz2
    have s4 := conv_grown (c := c2) ho2.row (Nat.le_refl _)
    clear ho2
    generalize strOfNums (rputL zs p n v) = str at *
    go_wp2_with fail
    refine wp_region_rel1 [Sp.call 22 (.int .i64 (frameF p)), Sp.row 27 .u8 (List.replicate 4096 0), Sp.row 29 .u8 (List.replicate 4096 0)] (by kernel_rfl) (by kernel_rfl) ?_
    intro V hV
    have e22 : V 22 = .int .i64 (frameF p) := hV 22
    obtain ⟨B1, m1, d1, e27⟩ : ∃ A n c, V 27 = .slice A n c := hV 27
    obtain ⟨B2, m2, d2, e29⟩ : ∃ A n c, V 29 = .slice A n c := hV 29
    rw [← hx.out] at e22
    repeat (refine rel_quiet rfl rfl ?_; go_big_quiet_step (fail); refine wpQuiet_nil ?_)
    refine rel_special (Sp.call 22 _) (by kernel_rfl) rfl (fun w' hb hf => ?_) ?_
    · refine becomes_call (f := 19) (args := #[.int .i64 p]) ?_ ((frame_any p w').mono ?_)
      · go_simp
      · rintro e w'' ⟨rfl, rfl⟩
        exact ⟨_, rfl, Below.refl _ _, rfl, trivial⟩
    go_big_quiet_step (fail)
    refine wpQuiet_nil ?_
    repeat (refine rel_quiet rfl rfl ?_; go_big_quiet_step (fail); refine wpQuiet_nil ?_)
    refine rel_special (Sp.row 27 .u8 (List.replicate 4096 0)) (by kernel_rfl) rfl (fun w' hb hf => ?_) ?_
    · refine becomes_call (f := 20) (args := #[]) ?_ ((rnew_any w').mono ?_)
      · go_simp
      · rintro e w'' ⟨rfl, rfl⟩
        exact ⟨_, rfl, (Below.refl _ _).alloc (Nat.le_refl _) _, ⟨_, _, _, rfl⟩, _, _, _, rfl, (made_own 4096 (by omega) w').row⟩
    go_big_quiet_step (fail)
    refine wpQuiet_nil ?_
    refine rel_fact (.string (strOfNums (List.replicate 4096 0))) (by kernel_rfl) rfl (fun w' hb hf => ?_) ?_
    · obtain ⟨_, _, _, e, hr⟩ : ∃ A n c, V 27 = .slice A n c ∧ Row .u8 w' w'.heap.size A n (List.replicate 4096 0) := hf _ (List.Mem.head _) (by kernel_rfl)
      rw [e27] at e
      cases e
      have hc := conv_row (c := d1) hr
      generalize strOfNums (List.replicate 4096 0) = z at *
      go_simp
    go_big_quiet_step (fail)
    refine wpQuiet_nil ?_
    refine rel_special (Sp.row 29 .u8 (List.replicate 4096 0)) (by kernel_rfl) rfl (fun w' hb hf => ?_) ?_
    · have hm : (Instr.makeSlice 22 (.int .i64 4096) (.int .i64 4096)).run Try.prog w' = .ok (.slice (some ⟨w'.heap.size, 0, none⟩) 4096 4096) (w'.alloc (.cells (zcells 4096) 5)) := make_u8 4096 (by omega) w'
      refine becomes_value (v := .slice (some ⟨w'.heap.size, 0, none⟩) 4096 4096) (w' := w'.alloc (.cells (zcells 4096) 5)) ?_ ((Below.refl _ _).alloc (Nat.le_refl _) _) ?_
      · go_simp
      · exact ⟨⟨_, _, _, rfl⟩, _, _, _, rfl, (made_own 4096 (by omega) w').row⟩
    go_big_quiet_step (fail)
    refine wpQuiet_nil ?_
    refine rel_fact (.string (strOfNums (List.replicate 4096 0))) (by kernel_rfl) rfl (fun w' hb hf => ?_) ?_
    · obtain ⟨_, _, _, e, hr⟩ : ∃ A n c, V 29 = .slice A n c ∧ Row .u8 w' w'.heap.size A n (List.replicate 4096 0) := hf _ (List.Mem.head _) (by kernel_rfl)
      rw [e29] at e
      cases e
      have hc := conv_row (c := d2) hr
      generalize strOfNums (List.replicate 4096 0) = z at *
      go_simp
    go_big_quiet_step (fail)
    refine wpQuiet_nil ?_
    generalize strOfNums (List.replicate 4096 0) = z at *
    repeat (refine rel_quiet rfl rfl ?_; go_big_quiet_step (fail); refine wpQuiet_nil ?_)
    intro w3 hb3 hf
    clear hf
    go_wp2
    go_ret
    exact ⟨rfl, hb1.trans ((hb2.trans (hb3.mono hz2)).mono hz1)⟩

theorem ramTells_walk {w : World} (A : Option Addr) (len c : Nat) (zs : List Int) (hz : Row .u8 w w.heap.size A len zs) (hwf : ∀ z ∈ zs, (Lit.int .u8 z).wf = true) (hl : len ≤ c) (_ : c ≤ maxLen) (hbig : c ≤ 140737488351232) (p : Int) (hp : I64 p) (n : Int) (_ : I64 n) (v : Int) (_ : I64 v) :
    Calls Try.prog 5 #[.slice A len c, .int .i64 p, .int .i64 n, .int .i64 v] w fun e w' => e = .returned (.bool true) ∧ Below w.heap.size w w' := by
  by_cases h : p < 0 ∨ 64 ≤ p
  · have e : (-1 : Int) = frameF p := by unfold frameF; rw [if_pos h]
    exact ramTells_1 A len c zs hz (bytes_of_wf hwf) (by omega) p n v hp.2 (-1) e (by omega)
  · have e : 64 * p = frameF p := by unfold frameF; rw [if_neg h]; omega
    exact ramTells_1 A len c zs hz (bytes_of_wf hwf) (by omega) p n v hp.2 (64 * p) e (by omega)
end Go.Proofs.Ytidfngplhjegpaa
