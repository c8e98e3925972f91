/- PlaceGuard, walked. -/
import Derived.Test.YtnpmbjplmollkaaPlb
namespace Go.Proofs.Ytnpmbjplmollkaa
open Go.ChangeShapes Go.WideShapes Go.ChangeAt Go.RowKit Go.Joins
set_option linter.unusedVariables false
theorem find_no {g : Nat} {args : Array Value} {o : Option Att} (ho : o = none) {w : World} (h : Calls Try.prog g args w (FindP o w)) : Calls Try.prog g args w fun e w' => e = .returned (.tuple #[.agg #[.int .i64 0, .int .i64 0, .bool false, .bool false], .bool false]) ∧ Below w.heap.size w w' := by
  subst ho; exact h
theorem wrap_small (x : Int) (h0 : -1000 ≤ x) (h1 : x ≤ 5000) : wrap64 x = x ∧ IntKind.i64.wrap x = x := ⟨by unfold wrap64; omega, by rw [IntKind.wrap_i64]; omega⟩
set_option maxHeartbeats 8000000 in
set_option maxRecDepth 100000 in
theorem placeGuard_walk {w : World} (A : Option Addr) (n c : Nat) (xs : List Rgn) (hz : Rw fR 6 w w.heap.size A n xs) (hwf : ∀ x ∈ xs, x.fits) (hcap : n ≤ c) (hmax : c ≤ maxLen) (big : c ≤ 3518437208780) (count : Int) (hh : I64 count) (draw : Int) (hd : I64 draw) (at_ : Att) (hat : at_.fits) :
    Calls Try.prog 10 #[.slice A n c, .int .i64 count, .int .i64 draw, .agg #[.int .i64 at_.r, .int .i64 at_.k, .bool at_.g, .bool at_.s]] w fun e w' => e = .returned (.bool true) ∧ Below w.heap.size w w' := by
  have hbig : n ≤ 140737488355328 := by omega
  clear hcap hmax big hwf hat
  have HB0 := Lib.hid ((Below.refl w.heap.size w).alloc (Nat.le_refl _) (.cells #[.int .i64 at_.r, .int .i64 at_.k, .bool at_.g, .bool at_.s] 24))
  have HCH := Lib.hid (fun w1 (h1 : Below w.heap.size w w1) => choose_any A n c xs count draw w1 w.heap.size (hz.below h1) h1.size hbig hh hd)
  by_cases hE : chE xs count = 0
  · have hm := ch_mem (d := draw) hE
    obtain ⟨g1, g2, g3, g4⟩ := guard_law hm at_
    obtain ⟨f1, f2, f3, f4⟩ := chE_facts hE
    obtain ⟨_, _, q3, q4, _⟩ := mem_all.1 hm
    have hn64 : n ≤ 64 := by rw [← hz.1]; exact rightL_len f1
    rw [hE] at HCH
    have HADD := Lib.hid (fun w1 (h1 : Below w.heap.size w w1) => add_any A n c xs ⟨chN xs count draw, chN xs count draw + count, at_⟩ w1 w.heap.size (hz.below h1) h1.size hbig)
    rw [g1] at HADD
    have HF1 := Lib.hid (fun w1 (h1 : Below w.heap.size w w1) => find_no g3 (find_any A n c xs (chN xs count draw - 1) w1 w.heap.size (hz.below h1) h1.size hbig))
    have HF2 := Lib.hid (fun w1 (h1 : Below w.heap.size w w1) => find_no g4 (find_any A n c xs (chN xs count draw + count) w1 w.heap.size (hz.below h1) h1.size hbig))
    have HAL := Lib.hid (fun w1 (h1 : Below w.heap.size w w1) => all_any A n c xs count w1 w.heap.size (hz.below h1) h1.size hbig hh)
    have HEA : Hid (∀ (k : Nat) q, (allP xs count)[k]? = some q → ∀ w1, Below w.heap.size w w1 → Calls Try.prog 29 #[.slice A n c, .int .i64 count, .int .i64 k] w1 (Two q 0 w1)) := Lib.hid (fun k q h w1 h1 => by
      have hk := (List.getElem?_eq_some_iff.1 h).1
      have hp := allP_len xs count
      have := choose_any A n c xs count k w1 w.heap.size (hz.below h1) h1.size hbig hh (by unfold I64; omega)
      rwa [hE, ch_each hE h] at this)
    have HX := Lib.hid (fun (i : Nat) (hi : i < (allP xs count).length) => (⟨(allP xs count)[i]'(by omega), List.getElem?_eq_getElem _⟩ : ∃ x, (allP xs count)[i]? = some x))
    have HML : Hid ((addL xs ⟨chN xs count draw, chN xs count draw + count, at_⟩).length = n + 1) := Lib.hid (by rw [g2, hz.1])
    have HM := Lib.hid hm
    have hpl := allP_len xs count
    generalize addL xs ⟨chN xs count draw, chN xs count draw + count, at_⟩ = m at *
    generalize chN xs count draw = p at *
    generalize allP xs count = pl at *
    generalize hlp : pl.length = n_p at *
    have HL_p := Lib.hid hlp
    clear hbig
    obtain ⟨m1, m4⟩ := wrap_small (p - 1) (by omega) (by omega)
    obtain ⟨m2, m5⟩ := wrap_small (p + count) (by omega) (by omega)
    obtain ⟨m3, m6⟩ := wrap_small ((n : Int) + 1) (by omega) (by omega)
    clear hlp hz hh hd hE hm g1 g2 g3 g4 f1 f4
    go_enter Try.func10, Try.ntmps10
    go_wp2_with (first
    | (go_at_call 32; refine (HAL.out (w5.alloc (.cells #[.int .i64 0, .int .i64 0, .bool false, .bool false] 24)) HA5.out).mono ?_; rintro e w6 ⟨v6, rfl, ho6, hb6⟩; obtain ⟨A6, c6, rfl, hr6⟩ := os_i ho6 n_p HL_p.out; clear ho6; have HB6 := Lib.hid (HA5.out.trans (hb6.mono HA5.out.size)); have P6 := Lib.hid hr6; clear hr6 hb6)
    | (go_at_call 28; refine (HF2.out (w4.alloc (.cells #[.int .i64 0, .int .i64 0, .bool false, .bool false] 24)) HA4.out).mono ?_; rintro e w5 ⟨rfl, hb5⟩; have HB5 := Lib.hid (HA4.out.trans (hb5.mono HA4.out.size)); have HA5 := Lib.hid (HB5.out.trans (((Below.refl w5.heap.size w5).alloc (Nat.le_refl _) (.cells #[.int .i64 0, .int .i64 0, .bool false, .bool false] 24)).mono HB5.out.size)); clear hb5)
    | (go_at_call 28; refine (HF1.out w3 HB3.out).mono ?_; rintro e w4 ⟨rfl, hb4⟩; have HB4 := Lib.hid (HB3.out.trans (hb4.mono HB3.out.size)); have HA4 := Lib.hid (HB4.out.trans (((Below.refl w4.heap.size w4).alloc (Nat.le_refl _) (.cells #[.int .i64 0, .int .i64 0, .bool false, .bool false] 24)).mono HB4.out.size)); clear hb4)
    | (go_at_call 11; refine (HADD.out w2 HB2.out).mono ?_; rintro e w3 ⟨v3, rfl, ho3, hb3⟩; obtain ⟨A3, c3, rfl, hr3⟩ := os_n ho3 (n + 1) HML.out; clear ho3 hr3; have HB3 := Lib.hid (HB2.out.trans (hb3.mono HB2.out.size)); clear hb3)
    | (go_at_call 29; refine (HCH.out w1 HB1.out).mono ?_; rintro e w2 ⟨rfl, hb2⟩; have HB2 := Lib.hid (HB1.out.trans (hb2.mono HB1.out.size)); have KB2 := Lib.hid (KB1.out.trans (hb2.mono KB1.out.size)); clear hb2; have bc2_0 : w2.cell? ⟨w.heap.size, 0, none⟩ = some (.int .i64 at_.r) := (KB2.out.cell (p := ⟨w.heap.size, 0, none⟩) (by simp)).trans (by simp [go_sem]); have bc2_1 : w2.cell? ⟨w.heap.size, 1, none⟩ = some (.int .i64 at_.k) := (KB2.out.cell (p := ⟨w.heap.size, 1, none⟩) (by simp)).trans (by simp [go_sem]); have bc2_2 : w2.cell? ⟨w.heap.size, 2, none⟩ = some (.bool at_.g) := (KB2.out.cell (p := ⟨w.heap.size, 2, none⟩) (by simp)).trans (by simp [go_sem]); have bc2_3 : w2.cell? ⟨w.heap.size, 3, none⟩ = some (.bool at_.s) := (KB2.out.cell (p := ⟨w.heap.size, 3, none⟩) (by simp)).trans (by simp [go_sem]))
    | (go_at_call 34; refine (alive9_any _).mono ?_; rintro e w1 ⟨rfl, hb1⟩; have HB1 := Lib.hid (HB0.out.trans (hb1.mono (by simp))); have KB1 := Lib.hid hb1; clear hb1))
    go_loopw [18, 19, 20, 21, 66] (fun _ _ _ _ i wr => ∃ k : Nat, k ≤ n_p ∧ i = .int .i64 k ∧ Hid (Below w6.heap.size w6 wr)) (fun _ _ _ _ i _ => n_p - (intOf i).toNat)
    case atStart => exact ⟨0, by omega, rfl, Lib.hid (Below.refl _ _)⟩
    case round =>
      obtain ⟨k, hk, rfl, HW⟩ := hrel
      have hsz := HW.out.size
      by_cases hlt : k < n_p
      · obtain ⟨q, hq⟩ := HX.out k hlt
        obtain ⟨b, off, hAe, hb⟩ := P6.out.open (by omega)
        subst hAe
        have hcs := (P6.out.below HW.out).at_ fI_len hq
        have qc : wr.cell? ⟨b, off + k, none⟩ = some (.int .i64 q) := by have := hcs 0 _ rfl; rwa [Nat.mul_one, Nat.add_zero] at this
        have HC := Lib.hid (HEA.out k q hq wr (HB6.out.trans (HW.out.mono HB6.out.size)))
        clear hcs hq hb
        go_wp2_with (go_at_call 29; refine HC.out.mono ?_; rintro e w7 ⟨rfl, hb7⟩)
        go_roundw
        case rel => exact ⟨k + 1, by omega, by go_num, Lib.hid (HW.out.trans (hb7.mono hsz))⟩
        case measure => simp [intOf]; omega
      · have HCON := Lib.hid (containsI_yes A6 n_p c6 pl p wr w6.heap.size (P6.out.below HW.out) (by omega) HM.out)
        go_wp2_with (go_at_call 35; refine HCON.out.mono ?_; rintro e w5 ⟨rfl, hw5⟩; rw [hw5]; clear hw5)
        go_ret
        exact ⟨rfl, HB6.out.trans (HW.out.mono HB6.out.size)⟩
  · have hne : (chE xs count != 0) = true := by rw [bne_iff_ne]; exact hE
    rw [show chN xs count draw = 0 from ch_no hE] at HCH
    generalize chE xs count = E at *
    clear hz hE
    go_enter Try.func10, Try.ntmps10
    go_wp2_with (first
    | (go_at_call 29; refine (HCH.out w1 HB1.out).mono ?_; rintro e w2 ⟨rfl, hb2⟩; have HB2 := Lib.hid (HB1.out.trans (hb2.mono HB1.out.size)); have KB2 := Lib.hid (KB1.out.trans (hb2.mono KB1.out.size)); clear hb2; have bc2_0 : w2.cell? ⟨w.heap.size, 0, none⟩ = some (.int .i64 at_.r) := (KB2.out.cell (p := ⟨w.heap.size, 0, none⟩) (by simp)).trans (by simp [go_sem]); have bc2_1 : w2.cell? ⟨w.heap.size, 1, none⟩ = some (.int .i64 at_.k) := (KB2.out.cell (p := ⟨w.heap.size, 1, none⟩) (by simp)).trans (by simp [go_sem]); have bc2_2 : w2.cell? ⟨w.heap.size, 2, none⟩ = some (.bool at_.g) := (KB2.out.cell (p := ⟨w.heap.size, 2, none⟩) (by simp)).trans (by simp [go_sem]); have bc2_3 : w2.cell? ⟨w.heap.size, 3, none⟩ = some (.bool at_.s) := (KB2.out.cell (p := ⟨w.heap.size, 3, none⟩) (by simp)).trans (by simp [go_sem]))
    | (go_at_call 34; refine (alive9_any _).mono ?_; rintro e w1 ⟨rfl, hb1⟩; have HB1 := Lib.hid (HB0.out.trans (hb1.mono (by simp))); have KB1 := Lib.hid hb1; clear hb1))
    go_ret
    exact ⟨rfl, HB2.out⟩
end Go.Proofs.Ytnpmbjplmollkaa
