/- The document's GPage answers as check.Page does. -/
import Derived.Test.YtokpodmefnmmcaaCheck
namespace Go.Proofs.Ytokpodmefnmmcaa
open Go.RowKit
attribute [local go_sem] Key4.v
theorem bit_yes {n b : Int} (h : n / b % 2 ≠ 0) : bitB n b = true := by unfold bitB; simp; omega
theorem bit_no {n b : Int} (h : n / b % 2 = 0) : bitB n b = false := by unfold bitB; simp; omega

set_option maxHeartbeats 8000000 in
theorem gpage_any (r key : Int) (tg sd : Bool) (K : Key4) (way : Int) (w : World) :
    Calls Try.prog 32 #[.agg #[.int .i64 r, .int .i64 key, .bool tg, .bool sd], K.v, .int .i64 way] w fun e w' => e = .returned (.int .i64 (pageF r key K way)) ∧ Below w.heap.size w w' := by
  obtain ⟨t0, d0, t1, d1, t2, d2, t3, d3⟩ := K
  have i0 := fun w => index0 t0 t1 t2 t3 d0 d1 d2 d3 w
  have i1 := fun w => index1 t0 t1 t2 t3 d0 d1 d2 d3 w
  have i2 := fun w => index2 t0 t1 t2 t3 d0 d1 d2 d3 w
  have i3 := fun w => index3 t0 t1 t2 t3 d0 d1 d2 d3 w
  simp only [Key4.v]
  by_cases hw : way = 1 ∨ way = 2 ∨ way = 4
  · by_cases hr : r / way % 2 = 0
    · have hb := bit_no hr
      have HR := Lib.hid hr
      clear hr
      rcases hw with rfl | rfl | rfl
      all_goals
        go_enter Try.func32, Try.ntmps32
        go_wp2_with (go_at_call 41; refine (gbit_any _ _ (by omega) _).mono ?_; rintro e w' ⟨rfl, rfl⟩)
        all_goals go_ret
        all_goals exact ⟨ret_i (pf2 (Or.inr HR.out)), by go_grown⟩
    · have hb := bit_yes hr
      have HR := Lib.hid hr
      clear hr
      by_cases h4 : way = 4
      · subst h4
        go_enter Try.func32, Try.ntmps32
        go_wp2_with (go_at_call 41; refine (gbit_any _ _ (by omega) _).mono ?_; rintro e w' ⟨rfl, rfl⟩)
        go_ret
        exact ⟨ret_i (pf04 rfl HR.out), by go_grown⟩
      · have h4' : (way == 4) = false := by simp [h4]
        by_cases hk : key < 0 ∨ 4 ≤ key
        · have k0 : ((0 : Int) == key) = false := by simp; omega
          have k1 : ((1 : Int) == key) = false := by simp; omega
          have k2 : ((2 : Int) == key) = false := by simp; omega
          have k3 : ((3 : Int) == key) = false := by simp; omega
          have HK := Lib.hid hk
          clear hk
          rcases hw with rfl | rfl | rfl
          · go_enter Try.func32, Try.ntmps32
            go_wp2_with (go_at_call 41; refine (gbit_any _ _ (by omega) _).mono ?_; rintro e w' ⟨rfl, rfl⟩)
            (refine wp_loop_rounds 5 ?_; repeat any_goals (rw [rounds_succ]; go_wp2_with (go_at_call 41; refine (gbit_any _ _ (by omega) _).mono ?_; rintro e w' ⟨rfl, rfl⟩)))
            all_goals go_ret
            all_goals exact ⟨ret_i (pf3 (by omega) HR.out (by omega) HK.out), by go_grown⟩
          · go_enter Try.func32, Try.ntmps32
            go_wp2_with (go_at_call 41; refine (gbit_any _ _ (by omega) _).mono ?_; rintro e w' ⟨rfl, rfl⟩)
            (refine wp_loop_rounds 5 ?_; repeat any_goals (rw [rounds_succ]; go_wp2_with (go_at_call 41; refine (gbit_any _ _ (by omega) _).mono ?_; rintro e w' ⟨rfl, rfl⟩)))
            all_goals go_ret
            all_goals exact ⟨ret_i (pf3 (by omega) HR.out (by omega) HK.out), by go_grown⟩
          · exact absurd rfl h4
        · have hk' : key = 0 ∨ key = 1 ∨ key = 2 ∨ key = 3 := by omega
          clear hk
          rcases hk' with rfl | rfl | rfl | rfl
          · by_cases hd : d0 / way % 2 = 0
            · have hc := bit_no hd
              have HD := Lib.hid hd
              clear hd
              rcases hw with rfl | rfl | rfl
              · go_enter Try.func32, Try.ntmps32
                go_wp2_with (go_at_call 41; refine (gbit_any _ _ (by omega) _).mono ?_; rintro e w' ⟨rfl, rfl⟩)
                (refine wp_loop_rounds 5 ?_; repeat any_goals (rw [rounds_succ]; go_wp2_with (go_at_call 41; refine (gbit_any _ _ (by omega) _).mono ?_; rintro e w' ⟨rfl, rfl⟩)))
                all_goals go_ret
                all_goals exact ⟨ret_i (pf0d (d := d0) (by omega) HR.out rfl (by omega) HD.out), by go_grown⟩
              · go_enter Try.func32, Try.ntmps32
                go_wp2_with (go_at_call 41; refine (gbit_any _ _ (by omega) _).mono ?_; rintro e w' ⟨rfl, rfl⟩)
                (refine wp_loop_rounds 5 ?_; repeat any_goals (rw [rounds_succ]; go_wp2_with (go_at_call 41; refine (gbit_any _ _ (by omega) _).mono ?_; rintro e w' ⟨rfl, rfl⟩)))
                all_goals go_ret
                all_goals exact ⟨ret_i (pf0d (d := d0) (by omega) HR.out rfl (by omega) HD.out), by go_grown⟩
              · exact absurd rfl h4
            · have hc := bit_yes hd
              have HD := Lib.hid hd
              clear hd
              rcases hw with rfl | rfl | rfl
              · go_enter Try.func32, Try.ntmps32
                go_wp2_with (go_at_call 41; refine (gbit_any _ _ (by omega) _).mono ?_; rintro e w' ⟨rfl, rfl⟩)
                (refine wp_loop_rounds 5 ?_; repeat any_goals (rw [rounds_succ]; go_wp2_with (go_at_call 41; refine (gbit_any _ _ (by omega) _).mono ?_; rintro e w' ⟨rfl, rfl⟩)))
                all_goals go_ret
                all_goals exact ⟨ret_i (pf3d (d := d0) (by omega) HR.out (by omega) rfl HD.out), by go_grown⟩
              · go_enter Try.func32, Try.ntmps32
                go_wp2_with (go_at_call 41; refine (gbit_any _ _ (by omega) _).mono ?_; rintro e w' ⟨rfl, rfl⟩)
                (refine wp_loop_rounds 5 ?_; repeat any_goals (rw [rounds_succ]; go_wp2_with (go_at_call 41; refine (gbit_any _ _ (by omega) _).mono ?_; rintro e w' ⟨rfl, rfl⟩)))
                all_goals go_ret
                all_goals exact ⟨ret_i (pf3d (d := d0) (by omega) HR.out (by omega) rfl HD.out), by go_grown⟩
              · exact absurd rfl h4
          · by_cases hd : d1 / way % 2 = 0
            · have hc := bit_no hd
              have HD := Lib.hid hd
              clear hd
              rcases hw with rfl | rfl | rfl
              · go_enter Try.func32, Try.ntmps32
                go_wp2_with (go_at_call 41; refine (gbit_any _ _ (by omega) _).mono ?_; rintro e w' ⟨rfl, rfl⟩)
                (refine wp_loop_rounds 5 ?_; repeat any_goals (rw [rounds_succ]; go_wp2_with (go_at_call 41; refine (gbit_any _ _ (by omega) _).mono ?_; rintro e w' ⟨rfl, rfl⟩)))
                all_goals go_ret
                all_goals exact ⟨ret_i (pf0d (d := d1) (by omega) HR.out rfl (by omega) HD.out), by go_grown⟩
              · go_enter Try.func32, Try.ntmps32
                go_wp2_with (go_at_call 41; refine (gbit_any _ _ (by omega) _).mono ?_; rintro e w' ⟨rfl, rfl⟩)
                (refine wp_loop_rounds 5 ?_; repeat any_goals (rw [rounds_succ]; go_wp2_with (go_at_call 41; refine (gbit_any _ _ (by omega) _).mono ?_; rintro e w' ⟨rfl, rfl⟩)))
                all_goals go_ret
                all_goals exact ⟨ret_i (pf0d (d := d1) (by omega) HR.out rfl (by omega) HD.out), by go_grown⟩
              · exact absurd rfl h4
            · have hc := bit_yes hd
              have HD := Lib.hid hd
              clear hd
              rcases hw with rfl | rfl | rfl
              · go_enter Try.func32, Try.ntmps32
                go_wp2_with (go_at_call 41; refine (gbit_any _ _ (by omega) _).mono ?_; rintro e w' ⟨rfl, rfl⟩)
                (refine wp_loop_rounds 5 ?_; repeat any_goals (rw [rounds_succ]; go_wp2_with (go_at_call 41; refine (gbit_any _ _ (by omega) _).mono ?_; rintro e w' ⟨rfl, rfl⟩)))
                all_goals go_ret
                all_goals exact ⟨ret_i (pf3d (d := d1) (by omega) HR.out (by omega) rfl HD.out), by go_grown⟩
              · go_enter Try.func32, Try.ntmps32
                go_wp2_with (go_at_call 41; refine (gbit_any _ _ (by omega) _).mono ?_; rintro e w' ⟨rfl, rfl⟩)
                (refine wp_loop_rounds 5 ?_; repeat any_goals (rw [rounds_succ]; go_wp2_with (go_at_call 41; refine (gbit_any _ _ (by omega) _).mono ?_; rintro e w' ⟨rfl, rfl⟩)))
                all_goals go_ret
                all_goals exact ⟨ret_i (pf3d (d := d1) (by omega) HR.out (by omega) rfl HD.out), by go_grown⟩
              · exact absurd rfl h4
          · by_cases hd : d2 / way % 2 = 0
            · have hc := bit_no hd
              have HD := Lib.hid hd
              clear hd
              rcases hw with rfl | rfl | rfl
              · go_enter Try.func32, Try.ntmps32
                go_wp2_with (go_at_call 41; refine (gbit_any _ _ (by omega) _).mono ?_; rintro e w' ⟨rfl, rfl⟩)
                (refine wp_loop_rounds 5 ?_; repeat any_goals (rw [rounds_succ]; go_wp2_with (go_at_call 41; refine (gbit_any _ _ (by omega) _).mono ?_; rintro e w' ⟨rfl, rfl⟩)))
                all_goals go_ret
                all_goals exact ⟨ret_i (pf0d (d := d2) (by omega) HR.out rfl (by omega) HD.out), by go_grown⟩
              · go_enter Try.func32, Try.ntmps32
                go_wp2_with (go_at_call 41; refine (gbit_any _ _ (by omega) _).mono ?_; rintro e w' ⟨rfl, rfl⟩)
                (refine wp_loop_rounds 5 ?_; repeat any_goals (rw [rounds_succ]; go_wp2_with (go_at_call 41; refine (gbit_any _ _ (by omega) _).mono ?_; rintro e w' ⟨rfl, rfl⟩)))
                all_goals go_ret
                all_goals exact ⟨ret_i (pf0d (d := d2) (by omega) HR.out rfl (by omega) HD.out), by go_grown⟩
              · exact absurd rfl h4
            · have hc := bit_yes hd
              have HD := Lib.hid hd
              clear hd
              rcases hw with rfl | rfl | rfl
              · go_enter Try.func32, Try.ntmps32
                go_wp2_with (go_at_call 41; refine (gbit_any _ _ (by omega) _).mono ?_; rintro e w' ⟨rfl, rfl⟩)
                (refine wp_loop_rounds 5 ?_; repeat any_goals (rw [rounds_succ]; go_wp2_with (go_at_call 41; refine (gbit_any _ _ (by omega) _).mono ?_; rintro e w' ⟨rfl, rfl⟩)))
                all_goals go_ret
                all_goals exact ⟨ret_i (pf3d (d := d2) (by omega) HR.out (by omega) rfl HD.out), by go_grown⟩
              · go_enter Try.func32, Try.ntmps32
                go_wp2_with (go_at_call 41; refine (gbit_any _ _ (by omega) _).mono ?_; rintro e w' ⟨rfl, rfl⟩)
                (refine wp_loop_rounds 5 ?_; repeat any_goals (rw [rounds_succ]; go_wp2_with (go_at_call 41; refine (gbit_any _ _ (by omega) _).mono ?_; rintro e w' ⟨rfl, rfl⟩)))
                all_goals go_ret
                all_goals exact ⟨ret_i (pf3d (d := d2) (by omega) HR.out (by omega) rfl HD.out), by go_grown⟩
              · exact absurd rfl h4
          · by_cases hd : d3 / way % 2 = 0
            · have hc := bit_no hd
              have HD := Lib.hid hd
              clear hd
              rcases hw with rfl | rfl | rfl
              · go_enter Try.func32, Try.ntmps32
                go_wp2_with (go_at_call 41; refine (gbit_any _ _ (by omega) _).mono ?_; rintro e w' ⟨rfl, rfl⟩)
                (refine wp_loop_rounds 5 ?_; repeat any_goals (rw [rounds_succ]; go_wp2_with (go_at_call 41; refine (gbit_any _ _ (by omega) _).mono ?_; rintro e w' ⟨rfl, rfl⟩)))
                all_goals go_ret
                all_goals exact ⟨ret_i (pf0d (d := d3) (by omega) HR.out rfl (by omega) HD.out), by go_grown⟩
              · go_enter Try.func32, Try.ntmps32
                go_wp2_with (go_at_call 41; refine (gbit_any _ _ (by omega) _).mono ?_; rintro e w' ⟨rfl, rfl⟩)
                (refine wp_loop_rounds 5 ?_; repeat any_goals (rw [rounds_succ]; go_wp2_with (go_at_call 41; refine (gbit_any _ _ (by omega) _).mono ?_; rintro e w' ⟨rfl, rfl⟩)))
                all_goals go_ret
                all_goals exact ⟨ret_i (pf0d (d := d3) (by omega) HR.out rfl (by omega) HD.out), by go_grown⟩
              · exact absurd rfl h4
            · have hc := bit_yes hd
              have HD := Lib.hid hd
              clear hd
              rcases hw with rfl | rfl | rfl
              · go_enter Try.func32, Try.ntmps32
                go_wp2_with (go_at_call 41; refine (gbit_any _ _ (by omega) _).mono ?_; rintro e w' ⟨rfl, rfl⟩)
                (refine wp_loop_rounds 5 ?_; repeat any_goals (rw [rounds_succ]; go_wp2_with (go_at_call 41; refine (gbit_any _ _ (by omega) _).mono ?_; rintro e w' ⟨rfl, rfl⟩)))
                all_goals go_ret
                all_goals exact ⟨ret_i (pf3d (d := d3) (by omega) HR.out (by omega) rfl HD.out), by go_grown⟩
              · go_enter Try.func32, Try.ntmps32
                go_wp2_with (go_at_call 41; refine (gbit_any _ _ (by omega) _).mono ?_; rintro e w' ⟨rfl, rfl⟩)
                (refine wp_loop_rounds 5 ?_; repeat any_goals (rw [rounds_succ]; go_wp2_with (go_at_call 41; refine (gbit_any _ _ (by omega) _).mono ?_; rintro e w' ⟨rfl, rfl⟩)))
                all_goals go_ret
                all_goals exact ⟨ret_i (pf3d (d := d3) (by omega) HR.out (by omega) rfl HD.out), by go_grown⟩
              · exact absurd rfl h4
  · have w1 : (way != 1) = true := by simp; omega
    have w2 : (way != 2) = true := by simp; omega
    have w4 : (way != 4) = true := by simp; omega
    go_enter Try.func32, Try.ntmps32
    go_wp2
    all_goals go_ret
    all_goals exact ⟨ret_i (pf2 (Or.inl hw)), by go_grown⟩
end Go.Proofs.Ytokpodmefnmmcaa
