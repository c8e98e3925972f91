/- RegionBack, walked. -/
import Derived.Test.YtnpmbjplmollkaaRgt
import Derived.Test.YtnpmbjplmollkaaRegU
namespace Go.Proofs.Ytnpmbjplmollkaa
open Go.ChangeShapes Go.WideShapes Go.ChangeAt Go.RowKit Go.Joins Go.Sort
set_option linter.unusedVariables false
attribute [local go_sem] Oper.quiet Oper.quietAt Oper.quietUpon
theorem addL_len {xs : List Rgn} {x : Rgn} : (addL xs x).length ≤ 1000 := by
  unfold addL
  split
  · rename_i h
    have h3 := rightL_len (add_facts h).1
    have h1 := norm_len (outL x.f x.t xs ++ [x])
    have h2 := outL_len x.f x.t xs
    rw [List.length_append, List.length_singleton] at h1
    omega
  · simp
set_option maxHeartbeats 8000000 in
set_option maxRecDepth 100000 in
theorem back_run (A : Option Addr) (n c : Nat) (xs : List Rgn) (w : World) (hz : Rw fR 6 w w.heap.size A n xs) (hbig : n ≤ 140737488355328) (x : Rgn) :
    Calls Try.prog 5 #[.slice A n c, .agg #[.int .i64 x.f, .int .i64 x.t, .int .i64 x.a.r, .int .i64 x.a.k, .bool x.a.g, .bool x.a.s]] w fun e w' => e = .returned (.bool true) ∧ Below w.heap.size w w' := by
  have HB0 := Lib.hid ((Below.refl w.heap.size w).alloc (Nat.le_refl _) (.cells #[.int .i64 x.f, .int .i64 x.t, .int .i64 x.a.r, .int .i64 x.a.k, .bool x.a.g, .bool x.a.s] 26))
  have HADD := Lib.hid (fun w1 (h1 : Below w.heap.size w w1) => add_any A n c xs x w1 w.heap.size (hz.below h1) h1.size hbig)
  by_cases hE : addE xs x = 0
  · obtain ⟨b1, b2, b3, b4⟩ := back_law hE
    obtain ⟨hr, h0, h1, h2, _⟩ := add_facts hE
    have hok1 := (right_good hr).ok
    have hok2 := (right_good b3).ok
    have hl1 := rightL_len hr
    have hl2 := rightL_len b3
    have hn64 : n ≤ 64 := by rw [← hz.1]; exact hl1
    have hT := tot_le xs hok1
    rw [hE] at HADD
    have HCUT := Lib.hid (fun A2 c2 w2 (h : Rw fR 6 w2 w2.heap.size A2 (addL xs x).length (addL xs x)) => rcut_any A2 _ c2 _ x.f x.t w2 _ h (Nat.le_refl _) (Nat.le_trans addL_len (by decide)))
    rw [b1, b2] at HCUT
    have HEQ := Lib.hid (fun A3 c3 w3 (h3 : Rw fR 6 w3 w3.heap.size A3 n xs) (h : Rw fR 6 w3 w3.heap.size A n xs) => eq_yes A3 A n c3 c xs w3 h3 h (by omega))
    have HRT := Lib.hid (fun A2 c2 w2 (h : Rw fR 6 w2 w2.heap.size A2 (addL xs x).length (addL xs x)) => right_any A2 _ c2 _ w2 _ h (Nat.le_refl _) (Nat.le_trans addL_len (by decide)))
    rw [b3] at HRT
    have HC2 := Lib.hid (fun A2 c2 w2 (h : Rw fR 6 w2 w2.heap.size A2 (addL xs x).length (addL xs x)) => count_any A2 _ c2 _ w2 _ h (Nat.le_refl _) addL_len hok2)
    rw [b4] at HC2
    have HC1 := Lib.hid (fun w2 (h : Rw fR 6 w2 w2.heap.size A n xs) => count_any A n c _ w2 _ h (Nat.le_refl _) (by omega) hok1)
    have HLN := Lib.hid hz.1
    have HZ := Lib.hid hz
    have m1 : wrap64 (tot xs + x.t) = tot xs + x.t := by unfold wrap64; omega
    have m2 : wrap64 (tot xs + x.t - x.f) = tot xs + x.t - x.f := by unfold wrap64; omega
    have m3 : IntKind.i64.wrap (tot xs + x.t) = tot xs + x.t := by rw [IntKind.wrap_i64]; omega
    have m4 : IntKind.i64.wrap (tot xs + x.t - x.f) = tot xs + x.t - x.f := by rw [IntKind.wrap_i64]; omega
    clear b1 b2 b3 b4 hr hok1 hok2 hl1 hl2 hT h0 h1 h2 hz hE hn64
    generalize tot xs = tt at *
    generalize addL xs x = m at *
    generalize hml : m.length = ml at *
    have HML := Lib.hid hml
    clear hml
    go_enter Try.func5, Try.ntmps5
    go_wp2_with (first
    | (go_at_call 14; refine (HCUT.out A2 c2 w2 hr2).mono ?_; rintro e w3 ⟨v3, rfl, ho3, hb3⟩; obtain ⟨A3, c3, rfl, hr3⟩ := os_n ho3 n HLN.out; clear ho3; have HB3 := Lib.hid (HB2.out.trans (hb3.mono HB2.out.size)); have KB3 := Lib.hid (KB2.out.trans (hb3.mono KB2.out.size)); have HR2 := Lib.hid (hr2.on hb3 (Nat.le_refl _)); have HR3 := Lib.hid hr3; clear hb3 hr3; have bc3_0 : w3.cell? ⟨w.heap.size, 0, none⟩ = some (.int .i64 x.f) := (KB3.out.cell (p := ⟨w.heap.size, 0, none⟩) (by simp)).trans (by simp [go_sem]); have bc3_1 : w3.cell? ⟨w.heap.size, 1, none⟩ = some (.int .i64 x.t) := (KB3.out.cell (p := ⟨w.heap.size, 1, none⟩) (by simp)).trans (by simp [go_sem]))
    | (go_at_call 11; refine (HADD.out w1 HB1.out).mono ?_; rintro e w2 ⟨v2, rfl, ho2, hb2⟩; obtain ⟨A2, c2, rfl, hr2⟩ := os_n ho2 ml HML.out; clear ho2; have HB2 := Lib.hid (HB1.out.trans (hb2.mono HB1.out.size)); have KB2 := Lib.hid (KB1.out.trans (hb2.mono KB1.out.size)); clear hb2; have bc2_0 : w2.cell? ⟨w.heap.size, 0, none⟩ = some (.int .i64 x.f) := (KB2.out.cell (p := ⟨w.heap.size, 0, none⟩) (by simp)).trans (by simp [go_sem]); have bc2_1 : w2.cell? ⟨w.heap.size, 1, none⟩ = some (.int .i64 x.t) := (KB2.out.cell (p := ⟨w.heap.size, 1, none⟩) (by simp)).trans (by simp [go_sem]))
    | (go_at_call 25; refine (alive8_any _).mono ?_; rintro e w1 ⟨rfl, hb1⟩; have HB1 := Lib.hid (HB0.out.trans (hb1.mono (by simp))); have KB1 := Lib.hid hb1; clear hb1; have bc1_0 : w1.cell? ⟨w.heap.size, 0, none⟩ = some (.int .i64 x.f) := (KB1.out.cell (p := ⟨w.heap.size, 0, none⟩) (by simp)).trans (by simp [go_sem]); have bc1_1 : w1.cell? ⟨w.heap.size, 1, none⟩ = some (.int .i64 x.t) := (KB1.out.cell (p := ⟨w.heap.size, 1, none⟩) (by simp)).trans (by simp [go_sem]); have bc1_2 : w1.cell? ⟨w.heap.size, 2, none⟩ = some (.int .i64 x.a.r) := (KB1.out.cell (p := ⟨w.heap.size, 2, none⟩) (by simp)).trans (by simp [go_sem]); have bc1_3 : w1.cell? ⟨w.heap.size, 3, none⟩ = some (.int .i64 x.a.k) := (KB1.out.cell (p := ⟨w.heap.size, 3, none⟩) (by simp)).trans (by simp [go_sem]); have bc1_4 : w1.cell? ⟨w.heap.size, 4, none⟩ = some (.bool x.a.g) := (KB1.out.cell (p := ⟨w.heap.size, 4, none⟩) (by simp)).trans (by simp [go_sem]); have bc1_5 : w1.cell? ⟨w.heap.size, 5, none⟩ = some (.bool x.a.s) := (KB1.out.cell (p := ⟨w.heap.size, 5, none⟩) (by simp)).trans (by simp [go_sem])))
    have HRL : Hid (Rw fR 6 w3 w3.heap.size A n xs) := Lib.hid ((HZ.out.on HB3.out (Nat.le_refl _)))
    have gW : ∀ (d : Nat) (os : Array Obj) (j : Nat), (grow (redrawn w3 d) os).cell? ⟨w.heap.size, j, none⟩ = w3.cell? ⟨w.heap.size, j, none⟩ := fun d os j => (below_regrown w3 d os).cell (p := ⟨w.heap.size, j, none⟩) (Nat.lt_of_lt_of_le (by simp) KB3.out.size)
    refine wp_region_rel1 [Sp.call 5 (.bool true), Sp.call 9 (.bool true), Sp.call 13 (.int .i64 (tt + x.t - x.f)), Sp.call 15 (.int .i64 tt)] (by kernel_rfl) (by kernel_rfl) ?_
    intro V hV
    have e5 : V 5 = .bool true := hV 5
    have e9 : V 9 = .bool true := hV 9
    have e13 : V 13 = .int .i64 (tt + x.t - x.f) := hV 13
    have e15 : V 15 = .int .i64 tt := hV 15
    repeat (refine rel_quiet rfl rfl ?_; go_big_quiet_step (fail); refine wpQuiet_nil ?_)
    refine rel_special (Sp.call 5 (.bool true)) (by kernel_rfl) rfl (fun w' hb hf => ?_) ?_
    · have h := HEQ.out A3 c3 w' (HR3.out.on hb (Nat.le_refl _)) (HRL.out.on hb (Nat.le_refl _))
      refine becomes_call (f := 16) (args := #[.slice A3 n c3, .slice A n c]) ?_ (h.mono ?_)
      · go_simp
      · rintro e w'' ⟨rfl, hb⟩
        exact ⟨_, rfl, hb, rfl, trivial⟩
    go_big_quiet_step (fail)
    refine wpQuiet_nil ?_
    simp only [e5]
    repeat (refine rel_quiet rfl rfl ?_; go_big_quiet_step (fail); refine wpQuiet_nil ?_)
    refine rel_special (Sp.call 9 (.bool true)) (by kernel_rfl) rfl (fun w' hb hf => ?_) ?_
    · have h := HRT.out A2 c2 w' (HR2.out.on hb (Nat.le_refl _))
      refine becomes_call (f := 26) (args := #[.slice A2 ml c2]) ?_ (h.mono ?_)
      · go_simp
      · rintro e w'' ⟨rfl, hb⟩
        exact ⟨_, rfl, hb, rfl, trivial⟩
    go_big_quiet_step (fail)
    refine wpQuiet_nil ?_
    simp only [e9]
    repeat (refine rel_quiet rfl rfl ?_; go_big_quiet_step (fail); refine wpQuiet_nil ?_)
    refine rel_special (Sp.call 13 (.int .i64 (tt + x.t - x.f))) (by kernel_rfl) rfl (fun w' hb hf => ?_) ?_
    · have h := HC2.out A2 c2 w' (HR2.out.on hb (Nat.le_refl _))
      refine becomes_call (f := 27) (args := #[.slice A2 ml c2]) ?_ (h.mono ?_)
      · go_simp
      · rintro e w'' ⟨rfl, hb⟩
        exact ⟨_, rfl, hb, rfl, trivial⟩
    go_big_quiet_step (fail)
    refine wpQuiet_nil ?_
    simp only [e13]
    repeat (refine rel_quiet rfl rfl ?_; go_big_quiet_step (fail); refine wpQuiet_nil ?_)
    refine rel_special (Sp.call 15 (.int .i64 tt)) (by kernel_rfl) rfl (fun w' hb hf => ?_) ?_
    · have h := HC1.out w' (HRL.out.on hb (Nat.le_refl _))
      refine becomes_call (f := 27) (args := #[.slice A n c]) ?_ (h.mono ?_)
      · go_simp
      · rintro e w'' ⟨rfl, hb⟩
        exact ⟨_, rfl, hb, rfl, trivial⟩
    go_big_quiet_step (fail)
    refine wpQuiet_nil ?_
    simp only [e15]
    repeat (refine rel_quiet rfl rfl ?_; go_big_quiet_step (fail); refine wpQuiet_nil ?_)
    intro w4 hb4 hf
    clear hf
    go_wp2
    go_ret
    exact ⟨rfl, HB3.out.trans (hb4.mono HB3.out.size)⟩
  · have hne : (addE xs x != 0) = true := by rw [bne_iff_ne]; exact hE
    have HN : Hid (addL xs x = []) := Lib.hid (if_neg hE)
    rw [HN.out] at HADD
    generalize addE xs x = E at *
    clear hE hz
    go_enter Try.func5, Try.ntmps5
    go_wp2_with (first
    | (go_at_call 11; refine (HADD.out w1 HB1.out).mono ?_; rintro e w2 ⟨v2, rfl, ho2, hb2⟩; obtain ⟨A2, c2, rfl, hr2⟩ := os_n ho2 0 rfl; clear ho2; have HB2 := Lib.hid (HB1.out.trans (hb2.mono HB1.out.size)); have KB2 := Lib.hid (KB1.out.trans (hb2.mono KB1.out.size)); clear hb2; have bc2_0 : w2.cell? ⟨w.heap.size, 0, none⟩ = some (.int .i64 x.f) := (KB2.out.cell (p := ⟨w.heap.size, 0, none⟩) (by simp)).trans (by simp [go_sem]); have bc2_1 : w2.cell? ⟨w.heap.size, 1, none⟩ = some (.int .i64 x.t) := (KB2.out.cell (p := ⟨w.heap.size, 1, none⟩) (by simp)).trans (by simp [go_sem]))
    | (go_at_call 25; refine (alive8_any _).mono ?_; rintro e w1 ⟨rfl, hb1⟩; have HB1 := Lib.hid (HB0.out.trans (hb1.mono (by simp))); have KB1 := Lib.hid hb1; clear hb1; have bc1_0 : w1.cell? ⟨w.heap.size, 0, none⟩ = some (.int .i64 x.f) := (KB1.out.cell (p := ⟨w.heap.size, 0, none⟩) (by simp)).trans (by simp [go_sem]); have bc1_1 : w1.cell? ⟨w.heap.size, 1, none⟩ = some (.int .i64 x.t) := (KB1.out.cell (p := ⟨w.heap.size, 1, none⟩) (by simp)).trans (by simp [go_sem]); have bc1_2 : w1.cell? ⟨w.heap.size, 2, none⟩ = some (.int .i64 x.a.r) := (KB1.out.cell (p := ⟨w.heap.size, 2, none⟩) (by simp)).trans (by simp [go_sem]); have bc1_3 : w1.cell? ⟨w.heap.size, 3, none⟩ = some (.int .i64 x.a.k) := (KB1.out.cell (p := ⟨w.heap.size, 3, none⟩) (by simp)).trans (by simp [go_sem]); have bc1_4 : w1.cell? ⟨w.heap.size, 4, none⟩ = some (.bool x.a.g) := (KB1.out.cell (p := ⟨w.heap.size, 4, none⟩) (by simp)).trans (by simp [go_sem]); have bc1_5 : w1.cell? ⟨w.heap.size, 5, none⟩ = some (.bool x.a.s) := (KB1.out.cell (p := ⟨w.heap.size, 5, none⟩) (by simp)).trans (by simp [go_sem])))
    go_ret
    exact ⟨rfl, HB2.out⟩
theorem regionBack_walk {w : World} (A : Option Addr) (n c : Nat) (xs : List Rgn) (hz : Rw fR 6 w w.heap.size A n xs) (hwf : ∀ x ∈ xs, x.fits) (hcap : n ≤ c) (hmax : c ≤ maxLen) (big : c ≤ 3518437208780) (x : Rgn) (hx : x.fits) :
    Calls Try.prog 5 #[.slice A n c, .agg #[.int .i64 x.f, .int .i64 x.t, .int .i64 x.a.r, .int .i64 x.a.k, .bool x.a.g, .bool x.a.s]] w fun e w' => e = .returned (.bool true) ∧ Below w.heap.size w w' :=
  back_run A n c xs w hz (by omega) x
end Go.Proofs.Ytnpmbjplmollkaa
