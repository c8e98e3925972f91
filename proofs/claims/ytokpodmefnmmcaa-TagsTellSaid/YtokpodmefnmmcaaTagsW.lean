/- TagsTell: its walk. -/
import Derived.Test.YtokpodmefnmmcaaTagsN
import Derived.Test.YtokpodmefnmmcaaRegU
namespace Go.Proofs.Ytokpodmefnmmcaa
open Go.RowKit Go.Sort
set_option linter.unusedVariables false
attribute [local go_sem] Oper.quiet Oper.quietAt Oper.quietUpon

theorem bytes_of_wf {zs : List Int} (h : ∀ z ∈ zs, (Lit.int .u8 z).wf = true) : Bytes zs := by
  intro i
  by_cases hi : i < zs.length
  · rw [getD_get0 hi]
    have := h _ (List.getElem_mem hi)
    simp [Lit.wf, IntKind.min, IntKind.max, IntKind.signed, IntKind.bits] at this
    omega
  · have : zs.getD i 0 = 0 := by simp [List.getD, List.getElem?_eq_none (show zs.length ≤ i by omega)]
    rw [this]; omega
theorem Row.any {k : IntKind} {w : World} {B B' : Nat} {A : Option Addr} {n : Nat} {zs : List Int} (h : Row k w B A n zs) (hB : B ≤ B') : Row k w B' A n zs :=
  ⟨h.1, h.2.1, fun hn => by obtain ⟨b, off, e, hb, hc⟩ := h.2.2 hn; exact ⟨b, off, e, by omega, hc⟩⟩
/-- A call, or a make, whose value is a slice that reads as zs. -/
def Sp.row (at_ : Nat) (k : IntKind) (zs : List Int) : Sp :=
  ⟨at_, fun v => ∃ A n c, v = .slice A n c, fun v w => ∃ A n c, v = .slice A n c ∧ Row k w w.heap.size A n zs, ⟨_, none, 0, 0, rfl⟩,
    fun _ _ _ ⟨A, n, c, e, h⟩ hb => ⟨A, n, c, e, (h.below hb).any hb.size⟩⟩
theorem conv_grown {w : World} {B : Nat} {A : Option Addr} {n c : Nat} {zs : List Int} (h : Row .u8 w B A n zs) (hB : B ≤ w.heap.size) (d : Nat) (os : Array Obj) :
    (convert 55 9 (.slice A n c)).run Try.prog (grow (redrawn w d) os) = .ok (.string (strOfNums zs)) (grow (redrawn w d) os) :=
  conv_row (h.below ((below_regrown w d os).mono hB))
theorem half_wrap (m : Nat) (hm : m ≤ 256) : IntKind.i64.wrap ((IntKind.i64.wrap ((m : Int) + 1)).tdiv 2) = ((m : Int) + 1) / 2 := by
  have e : IntKind.i64.wrap ((m : Int) + 1) = (m : Int) + 1 := by rw [IntKind.wrap_i64]; omega
  rw [e, Int.tdiv_eq_ediv_of_nonneg (by omega), IntKind.wrap_i64]; omega
theorem new_row (k : Nat) (hk : k ≤ 128) (w : World) : Row .u8 (w.alloc (.cells (zcells k) 5)) (w.alloc (.cells (zcells k) 5)).heap.size (some ⟨w.heap.size, 0, none⟩) k (List.replicate k 0) :=
  ⟨by simp, by unfold maxLen; omega, fun _ => ⟨_, _, rfl, by simp, fun i hi => by
    rw [Nat.zero_add, World.cell?_alloc_at _ _ _ _ rfl, made_at _ _ hi]
    simp [List.getD, hi]⟩⟩

set_option maxHeartbeats 4000000 in
theorem tagsTell_1 {w : World} (A : Option Addr) (len c : Nat) (zs : List Int) (hz : Row .u8 w w.heap.size A len zs) (hwf : Bytes zs) (hl : len ≤ 140737488355328) (g many tag : Int) (gi : g ≤ 9223372036854775807) (mi : many ≤ 9223372036854775807) (n : Int) (hn0 : n < 0) :
    Calls Try.prog 12 #[.slice A len c, .int .i64 g, .int .i64 many, .int .i64 tag, .int .i64 n] w fun e w' => e = .returned (.bool true) ∧ Below w.heap.size w w' := by
  have e : newLen n = 0 := by unfold newLen; omega
  have hnew := fun W => tnew_any n W
  rw [e] at hnew
  have HN := Lib.hid hnew

  have HZ := Lib.hid hz
  have HB := Lib.hid hwf
  clear hz hwf e hnew
  go_enter Try.func12, Try.ntmps12
  go_wp2_with fail
  refine (tget_any A len c zs g _ w.heap.size HZ.out HB.out (Nat.le_refl _) hl).mono ?_
  rintro e w1 ⟨rfl, hw1⟩
  rw [hw1]
  clear hw1 w1
  go_wp2_with fail
  refine (cget_any A len c zs g _ w.heap.size HZ.out HB.out (Nat.le_refl _) hl).mono ?_
  rintro e w1 ⟨rfl, hw1⟩
  rw [hw1]
  clear hw1 w1
  go_wp2_with fail
  refine (tset_any A len c zs g many tag _ w.heap.size HZ.out HB.out (Nat.le_refl _) hl gi mi).mono ?_
  rintro e w1 ⟨A1, n1, c1, rfl, ho1, hb1⟩
  have HO1 := Lib.hid ho1
  have hz1 := hb1.size
  clear ho1
  go_wp2_with fail
  refine (cset_any A len c zs g many tag _ w.heap.size (HZ.out.below hb1) HB.out hz1 hl gi mi).mono ?_
  rintro e w2 ⟨A2, n2, c2, rfl, ho2, hb2⟩
  have hz2 := hb2.size
  have s3 := conv_grown (c := c1) (HO1.out.row.below hb2) hz2
  have s4 := conv_grown (c := c2) ho2.row (Nat.le_refl _)
  clear ho2
  generalize strOfNums (tsetL zs g many tag) = str at *
  go_wp2_with fail
  refine wp_region_rel1 [Sp.row 22 .u8 (List.replicate 0 0), Sp.row 29 .u8 (List.replicate 0 0)] (by kernel_rfl) (by kernel_rfl) ?_
  intro V hV
  obtain ⟨B1, m1, d1, e22⟩ : ∃ A n c, V 22 = .slice A n c := hV 22
  obtain ⟨B2, m2, d2, e29⟩ : ∃ A n c, V 29 = .slice A n c := hV 29
  repeat (refine rel_quiet rfl rfl ?_; go_big_quiet_step (fail); refine wpQuiet_nil ?_)
  refine rel_special (Sp.row 22 .u8 (List.replicate 0 0)) (by kernel_rfl) rfl (fun w' hb hf => ?_) ?_
  · refine becomes_call (f := 38) (args := #[.int .i64 n]) ?_ ((HN.out w').mono ?_)
    · go_simp
    · rintro e w'' ⟨rfl, rfl⟩
      exact ⟨_, rfl, (Below.refl _ _).alloc (Nat.le_refl _) _, ⟨_, _, _, rfl⟩, _, _, _, rfl, new_row _ (by omega) w'⟩
  go_big_quiet_step (fail)
  refine wpQuiet_nil ?_
  refine rel_fact (.string (strOfNums (List.replicate 0 0))) (by kernel_rfl) rfl (fun w' hb hf => ?_) ?_
  · obtain ⟨_, _, _, e, hr⟩ : ∃ A n c, V 22 = .slice A n c ∧ Row .u8 w' w'.heap.size A n (List.replicate 0 0) := hf _ (List.Mem.head _) (by kernel_rfl)
    rw [e22] at e
    cases e
    have hc := conv_row (c := d1) hr
    generalize strOfNums (List.replicate 0 0) = z at *
    go_simp
  go_big_quiet_step (fail)
  refine wpQuiet_nil ?_
  repeat (refine rel_quiet rfl rfl ?_; go_big_quiet_step (fail); refine wpQuiet_nil ?_)
  refine rel_special (Sp.row 29 .u8 (List.replicate 0 0)) (by kernel_rfl) rfl (fun w' hb hf => ?_) ?_
  · have hm : (Instr.makeSlice 55 (.int .i64 0) (.int .i64 0)).run Try.prog w' = .ok (.slice (some ⟨w'.heap.size, 0, none⟩) 0 0) (w'.alloc (.cells (zcells 0) 5)) := make_u8 0 (by omega) w'
    refine becomes_value (v := .slice (some ⟨w'.heap.size, 0, none⟩) 0 0) (w' := w'.alloc (.cells (zcells 0) 5)) ?_ ((Below.refl _ _).alloc (Nat.le_refl _) _) ?_
    · go_simp
    · exact ⟨⟨_, _, _, rfl⟩, _, _, _, rfl, new_row _ (by omega) w'⟩
  go_big_quiet_step (fail)
  refine wpQuiet_nil ?_
  refine rel_fact (.string (strOfNums (List.replicate 0 0))) (by kernel_rfl) rfl (fun w' hb hf => ?_) ?_
  · obtain ⟨_, _, _, e, hr⟩ : ∃ A n c, V 29 = .slice A n c ∧ Row .u8 w' w'.heap.size A n (List.replicate 0 0) := hf _ (List.Mem.head _) (by kernel_rfl)
    rw [e29] at e
    cases e
    have hc := conv_row (c := d2) hr
    generalize strOfNums (List.replicate 0 0) = z at *
    go_simp
  go_big_quiet_step (fail)
  refine wpQuiet_nil ?_
  generalize strOfNums (List.replicate 0 0) = z at *
  repeat (refine rel_quiet rfl rfl ?_; go_big_quiet_step (fail); refine wpQuiet_nil ?_)
  intro w3 hb3 hf
  clear hf
  go_wp2
  go_ret
  exact ⟨rfl, hb1.trans ((hb2.trans (hb3.mono hz2)).mono hz1)⟩

set_option maxHeartbeats 4000000 in
theorem tagsTell_2 {w : World} (A : Option Addr) (len c : Nat) (zs : List Int) (hz : Row .u8 w w.heap.size A len zs) (hwf : Bytes zs) (hl : len ≤ 140737488355328) (g many tag : Int) (gi : g ≤ 9223372036854775807) (mi : many ≤ 9223372036854775807) (n : Int) (hn0 : 256 < n) :
    Calls Try.prog 12 #[.slice A len c, .int .i64 g, .int .i64 many, .int .i64 tag, .int .i64 n] w fun e w' => e = .returned (.bool true) ∧ Below w.heap.size w w' := by
  have e : newLen n = 128 := by unfold newLen; omega
  have hnew := fun W => tnew_any n W
  rw [e] at hnew
  have HN := Lib.hid hnew

  have HZ := Lib.hid hz
  have HB := Lib.hid hwf
  clear hz hwf e hnew
  go_enter Try.func12, Try.ntmps12
  go_wp2_with fail
  refine (tget_any A len c zs g _ w.heap.size HZ.out HB.out (Nat.le_refl _) hl).mono ?_
  rintro e w1 ⟨rfl, hw1⟩
  rw [hw1]
  clear hw1 w1
  go_wp2_with fail
  refine (cget_any A len c zs g _ w.heap.size HZ.out HB.out (Nat.le_refl _) hl).mono ?_
  rintro e w1 ⟨rfl, hw1⟩
  rw [hw1]
  clear hw1 w1
  go_wp2_with fail
  refine (tset_any A len c zs g many tag _ w.heap.size HZ.out HB.out (Nat.le_refl _) hl gi mi).mono ?_
  rintro e w1 ⟨A1, n1, c1, rfl, ho1, hb1⟩
  have HO1 := Lib.hid ho1
  have hz1 := hb1.size
  clear ho1
  go_wp2_with fail
  refine (cset_any A len c zs g many tag _ w.heap.size (HZ.out.below hb1) HB.out hz1 hl gi mi).mono ?_
  rintro e w2 ⟨A2, n2, c2, rfl, ho2, hb2⟩
  have hz2 := hb2.size
  have s3 := conv_grown (c := c1) (HO1.out.row.below hb2) hz2
  have s4 := conv_grown (c := c2) ho2.row (Nat.le_refl _)
  clear ho2
  generalize strOfNums (tsetL zs g many tag) = str at *
  go_wp2_with fail
  refine wp_region_rel1 [Sp.row 22 .u8 (List.replicate 128 0), Sp.row 29 .u8 (List.replicate 128 0)] (by kernel_rfl) (by kernel_rfl) ?_
  intro V hV
  obtain ⟨B1, m1, d1, e22⟩ : ∃ A n c, V 22 = .slice A n c := hV 22
  obtain ⟨B2, m2, d2, e29⟩ : ∃ A n c, V 29 = .slice A n c := hV 29
  repeat (refine rel_quiet rfl rfl ?_; go_big_quiet_step (fail); refine wpQuiet_nil ?_)
  refine rel_special (Sp.row 22 .u8 (List.replicate 128 0)) (by kernel_rfl) rfl (fun w' hb hf => ?_) ?_
  · refine becomes_call (f := 38) (args := #[.int .i64 n]) ?_ ((HN.out w').mono ?_)
    · go_simp
    · rintro e w'' ⟨rfl, rfl⟩
      exact ⟨_, rfl, (Below.refl _ _).alloc (Nat.le_refl _) _, ⟨_, _, _, rfl⟩, _, _, _, rfl, new_row _ (by omega) w'⟩
  go_big_quiet_step (fail)
  refine wpQuiet_nil ?_
  refine rel_fact (.string (strOfNums (List.replicate 128 0))) (by kernel_rfl) rfl (fun w' hb hf => ?_) ?_
  · obtain ⟨_, _, _, e, hr⟩ : ∃ A n c, V 22 = .slice A n c ∧ Row .u8 w' w'.heap.size A n (List.replicate 128 0) := hf _ (List.Mem.head _) (by kernel_rfl)
    rw [e22] at e
    cases e
    have hc := conv_row (c := d1) hr
    generalize strOfNums (List.replicate 128 0) = z at *
    go_simp
  go_big_quiet_step (fail)
  refine wpQuiet_nil ?_
  repeat (refine rel_quiet rfl rfl ?_; go_big_quiet_step (fail); refine wpQuiet_nil ?_)
  refine rel_special (Sp.row 29 .u8 (List.replicate 128 0)) (by kernel_rfl) rfl (fun w' hb hf => ?_) ?_
  · have hm : (Instr.makeSlice 55 (.int .i64 128) (.int .i64 128)).run Try.prog w' = .ok (.slice (some ⟨w'.heap.size, 0, none⟩) 128 128) (w'.alloc (.cells (zcells 128) 5)) := make_u8 128 (by omega) w'
    refine becomes_value (v := .slice (some ⟨w'.heap.size, 0, none⟩) 128 128) (w' := w'.alloc (.cells (zcells 128) 5)) ?_ ((Below.refl _ _).alloc (Nat.le_refl _) _) ?_
    · go_simp
    · exact ⟨⟨_, _, _, rfl⟩, _, _, _, rfl, new_row _ (by omega) w'⟩
  go_big_quiet_step (fail)
  refine wpQuiet_nil ?_
  refine rel_fact (.string (strOfNums (List.replicate 128 0))) (by kernel_rfl) rfl (fun w' hb hf => ?_) ?_
  · obtain ⟨_, _, _, e, hr⟩ : ∃ A n c, V 29 = .slice A n c ∧ Row .u8 w' w'.heap.size A n (List.replicate 128 0) := hf _ (List.Mem.head _) (by kernel_rfl)
    rw [e29] at e
    cases e
    have hc := conv_row (c := d2) hr
    generalize strOfNums (List.replicate 128 0) = z at *
    go_simp
  go_big_quiet_step (fail)
  refine wpQuiet_nil ?_
  generalize strOfNums (List.replicate 128 0) = z at *
  repeat (refine rel_quiet rfl rfl ?_; go_big_quiet_step (fail); refine wpQuiet_nil ?_)
  intro w3 hb3 hf
  clear hf
  go_wp2
  go_ret
  exact ⟨rfl, hb1.trans ((hb2.trans (hb3.mono hz2)).mono hz1)⟩

set_option maxHeartbeats 4000000 in
theorem tagsTell_3 {w : World} (A : Option Addr) (len c : Nat) (zs : List Int) (hz : Row .u8 w w.heap.size A len zs) (hwf : Bytes zs) (hl : len ≤ 140737488355328) (g many tag : Int) (gi : g ≤ 9223372036854775807) (mi : many ≤ 9223372036854775807) (m : Nat) (hm0 : m ≤ 256) :
    Calls Try.prog 12 #[.slice A len c, .int .i64 g, .int .i64 many, .int .i64 tag, .int .i64 (m : Int)] w fun e w' => e = .returned (.bool true) ∧ Below w.heap.size w w' := by
  have e : newLen (m : Int) = ((m + 1) / 2) := by unfold newLen; omega
  have hnew := fun W => tnew_any (m : Int) W
  rw [e] at hnew
  have HN := Lib.hid hnew
  have hmi : (0 : Int) ≤ (m : Int) := Int.natCast_nonneg _
  have k1 := half_wrap m hm0

  have HZ := Lib.hid hz
  have HB := Lib.hid hwf
  clear hz hwf e hnew
  go_enter Try.func12, Try.ntmps12
  go_wp2_with fail
  refine (tget_any A len c zs g _ w.heap.size HZ.out HB.out (Nat.le_refl _) hl).mono ?_
  rintro e w1 ⟨rfl, hw1⟩
  rw [hw1]
  clear hw1 w1
  go_wp2_with fail
  refine (cget_any A len c zs g _ w.heap.size HZ.out HB.out (Nat.le_refl _) hl).mono ?_
  rintro e w1 ⟨rfl, hw1⟩
  rw [hw1]
  clear hw1 w1
  go_wp2_with fail
  refine (tset_any A len c zs g many tag _ w.heap.size HZ.out HB.out (Nat.le_refl _) hl gi mi).mono ?_
  rintro e w1 ⟨A1, n1, c1, rfl, ho1, hb1⟩
  have HO1 := Lib.hid ho1
  have hz1 := hb1.size
  clear ho1
  go_wp2_with fail
  refine (cset_any A len c zs g many tag _ w.heap.size (HZ.out.below hb1) HB.out hz1 hl gi mi).mono ?_
  rintro e w2 ⟨A2, n2, c2, rfl, ho2, hb2⟩
  have hz2 := hb2.size
  have s3 := conv_grown (c := c1) (HO1.out.row.below hb2) hz2
  have s4 := conv_grown (c := c2) ho2.row (Nat.le_refl _)
  clear ho2
  generalize strOfNums (tsetL zs g many tag) = str at *
  go_wp2_with fail
  refine wp_region_rel1 [Sp.row 22 .u8 (List.replicate ((m + 1) / 2) 0), Sp.row 29 .u8 (List.replicate ((m + 1) / 2) 0)] (by kernel_rfl) (by kernel_rfl) ?_
  intro V hV
  obtain ⟨B1, m1, d1, e22⟩ : ∃ A n c, V 22 = .slice A n c := hV 22
  obtain ⟨B2, m2, d2, e29⟩ : ∃ A n c, V 29 = .slice A n c := hV 29
  repeat (refine rel_quiet rfl rfl ?_; go_big_quiet_step (fail); refine wpQuiet_nil ?_)
  refine rel_special (Sp.row 22 .u8 (List.replicate ((m + 1) / 2) 0)) (by kernel_rfl) rfl (fun w' hb hf => ?_) ?_
  · refine becomes_call (f := 38) (args := #[.int .i64 (m : Int)]) ?_ ((HN.out w').mono ?_)
    · go_simp
    · rintro e w'' ⟨rfl, rfl⟩
      exact ⟨_, rfl, (Below.refl _ _).alloc (Nat.le_refl _) _, ⟨_, _, _, rfl⟩, _, _, _, rfl, new_row _ (by omega) w'⟩
  go_big_quiet_step (fail)
  refine wpQuiet_nil ?_
  refine rel_fact (.string (strOfNums (List.replicate ((m + 1) / 2) 0))) (by kernel_rfl) rfl (fun w' hb hf => ?_) ?_
  · obtain ⟨_, _, _, e, hr⟩ : ∃ A n c, V 22 = .slice A n c ∧ Row .u8 w' w'.heap.size A n (List.replicate ((m + 1) / 2) 0) := hf _ (List.Mem.head _) (by kernel_rfl)
    rw [e22] at e
    cases e
    have hc := conv_row (c := d1) hr
    generalize strOfNums (List.replicate ((m + 1) / 2) 0) = z at *
    go_simp
  go_big_quiet_step (fail)
  refine wpQuiet_nil ?_
  repeat (refine rel_quiet rfl rfl ?_; go_big_quiet_step (fail); refine wpQuiet_nil ?_)
  refine rel_special (Sp.row 29 .u8 (List.replicate ((m + 1) / 2) 0)) (by kernel_rfl) rfl (fun w' hb hf => ?_) ?_
  · have hm : (Instr.makeSlice 55 (.int .i64 (((m : Int) + 1) / 2)) (.int .i64 (((m : Int) + 1) / 2))).run Try.prog w' = .ok (.slice (some ⟨w'.heap.size, 0, none⟩) ((m + 1) / 2) ((m + 1) / 2)) (w'.alloc (.cells (zcells ((m + 1) / 2)) 5)) := make_u8 ((m + 1) / 2) (by omega) w'
    refine becomes_value (v := .slice (some ⟨w'.heap.size, 0, none⟩) ((m + 1) / 2) ((m + 1) / 2)) (w' := w'.alloc (.cells (zcells ((m + 1) / 2)) 5)) ?_ ((Below.refl _ _).alloc (Nat.le_refl _) _) ?_
    · go_simp
    · exact ⟨⟨_, _, _, rfl⟩, _, _, _, rfl, new_row _ (by omega) w'⟩
  go_big_quiet_step (fail)
  refine wpQuiet_nil ?_
  refine rel_fact (.string (strOfNums (List.replicate ((m + 1) / 2) 0))) (by kernel_rfl) rfl (fun w' hb hf => ?_) ?_
  · obtain ⟨_, _, _, e, hr⟩ : ∃ A n c, V 29 = .slice A n c ∧ Row .u8 w' w'.heap.size A n (List.replicate ((m + 1) / 2) 0) := hf _ (List.Mem.head _) (by kernel_rfl)
    rw [e29] at e
    cases e
    have hc := conv_row (c := d2) hr
    generalize strOfNums (List.replicate ((m + 1) / 2) 0) = z at *
    go_simp
  go_big_quiet_step (fail)
  refine wpQuiet_nil ?_
  generalize strOfNums (List.replicate ((m + 1) / 2) 0) = z at *
  repeat (refine rel_quiet rfl rfl ?_; go_big_quiet_step (fail); refine wpQuiet_nil ?_)
  intro w3 hb3 hf
  clear hf
  go_wp2
  go_ret
  exact ⟨rfl, hb1.trans ((hb2.trans (hb3.mono hz2)).mono hz1)⟩

theorem tagsTell_walk {w : World} (A : Option Addr) (len c : Nat) (zs : List Int) (hz : Row .u8 w w.heap.size A len zs) (hwf : ∀ z ∈ zs, (Lit.int .u8 z).wf = true) (hcap : len ≤ c) (_ : c ≤ maxLen) (hbig : c ≤ 140737488351232) (g : Int) (gi : I64 g) (many : Int) (mi : I64 many) (tag : Int) (_ : I64 tag) (n : Int) (_ : I64 n) :
    Calls Try.prog 12 #[.slice A len c, .int .i64 g, .int .i64 many, .int .i64 tag, .int .i64 n] w fun e w' => e = .returned (.bool true) ∧ Below w.heap.size w w' := by
  by_cases h1 : n < 0
  · exact tagsTell_1 A len c zs hz (bytes_of_wf hwf) (by omega) g many tag gi.2 mi.2 n h1
  · by_cases h2 : 256 < n
    · exact tagsTell_2 A len c zs hz (bytes_of_wf hwf) (by omega) g many tag gi.2 mi.2 n h2
    · obtain ⟨m, rfl⟩ := Int.eq_ofNat_of_zero_le (show 0 ≤ n by omega)
      exact tagsTell_3 A len c zs hz (bytes_of_wf hwf) (by omega) g many tag gi.2 mi.2 m (by omega)
end Go.Proofs.Ytokpodmefnmmcaa
