/- PlaceLess, walked. -/
import Derived.Test.YtnpmbjplmollkaaPla
namespace Go.Proofs.Ytnpmbjplmollkaa
open Go.ChangeShapes Go.WideShapes Go.ChangeAt Go.RowKit Go.Joins
set_option linter.unusedVariables false
set_option maxHeartbeats 8000000 in
set_option maxRecDepth 100000 in
theorem placeLess_walk {w : World} (A : Option Addr) (n c : Nat) (xs : List Rgn) (hz : Rw fR 6 w w.heap.size A n xs) (hwf : ∀ x ∈ xs, x.fits) (hcap : n ≤ c) (hmax : c ≤ maxLen) (big : c ≤ 3518437208780) (count : Int) (hh : I64 count) (a : Int) (ha : I64 a) (b : Int) (hb : I64 b) :
    Calls Try.prog 9 #[.slice A n c, .int .i64 count, .int .i64 a, .int .i64 b] w fun e w' => e = .returned (.bool true) ∧ Below w.heap.size w w' := by
  have hbig : n ≤ 140737488355328 := by omega
  clear hcap hmax big hwf ha hb
  unfold I64 at hh
  by_cases h2 : 2 ≤ count
  · have HA1 := Lib.hid (fun w1 (h1 : Below w.heap.size w w1) => all_any A n c xs (count - 1) w1 w.heap.size (hz.below h1) h1.size hbig (by unfold I64; omega))
    have HA2 := Lib.hid (fun w1 (h1 : Below w.heap.size w w1) => all_any A n c xs count w1 w.heap.size (hz.below h1) h1.size hbig (by unfold I64; omega))
    have HC := Lib.hid (fun w1 (h1 : Below w.heap.size w w1) => rcut_any A n c xs a b w1 w.heap.size (hz.below h1) h1.size hbig)
    have HA3 := Lib.hid (fun A2 c2 w2 (h : Rw fR 6 w2 w2.heap.size A2 (cutL xs a b).length (cutL xs a b)) => all_any A2 _ c2 _ count w2 _ h (Nat.le_refl _) (Nat.le_trans (cutL_len _ _ _) (by decide)) (by unfold I64; omega))
    have HX := Lib.hid (fun (i : Nat) (hi : i < (allP xs count).length) => (⟨(allP xs count)[i]'(by omega), List.getElem?_eq_getElem _⟩ : ∃ x, (allP xs count)[i]? = some x))
    have HL1 := Lib.hid (fun k q (h : (allP xs count)[k]? = some q) => less_one h2 (List.mem_of_getElem? h))
    have m1 : wrap64 (count - 1) = count - 1 := by unfold wrap64; omega
    have m2 : IntKind.i64.wrap (count - 1) = count - 1 := by rw [IntKind.wrap_i64]; omega
    have HL_n : Hid ((allP xs (count - 1)).length ≤ 1000) := Lib.hid (Nat.le_trans (allP_len _ _) (by decide))
    have HM_n : Hid ((allP (cutL xs a b) count).length ≤ 1000) := Lib.hid (Nat.le_trans (allP_len _ _) (by decide))
    have hpl := allP_len xs count
    by_cases hE : cutE xs a b = 0
    · have HL2 := Lib.hid (fun k q (h : (allP xs count)[k]? = some q) => less_cut hE (List.mem_of_getElem? h))
      rw [hE] at HC
      generalize allP (cutL xs a b) count = more at *
      generalize hlm : more.length = n_m at *
      have HL_m := Lib.hid hlm
      clear hlm
      generalize cutL xs a b = cc at *
      generalize hlc : cc.length = n_c at *
      have HL_c := Lib.hid hlc
      clear hlc
      generalize allP xs (count - 1) = less at *
      generalize hll : less.length = n_l at *
      have HL_l := Lib.hid hll
      clear hll
      generalize allP xs count = pl at *
      generalize hlp : pl.length = n_p at *
      have HL_p := Lib.hid hlp
      clear hlp hz hh
      clear hE
      go_enter Try.func9, Try.ntmps9
      go_wp2_with (first
      | (go_at_call 32; refine (HA2.out w3 HB3.out).mono ?_; rintro e w4 ⟨v4, rfl, ho4, hb4⟩; obtain ⟨A4, c4, rfl, hr4⟩ := os_i ho4 n_p HL_p.out; clear ho4; have HB4 := Lib.hid (HB3.out.trans (hb4.mono HB3.out.size)); have R4 := Lib.hid (R3.out.on hb4 (Nat.le_refl _)); have S4 := Lib.hid (S3.out.on hb4 (Nat.le_refl _)); have P4 := Lib.hid hr4; clear hr4 hb4)
      | (go_at_call 14; refine (HC.out w2 HB2.out).mono ?_; rintro e w3 ⟨v3, rfl, ho3, hb3⟩; obtain ⟨A3, c3, rfl, hr3⟩ := os_n ho3 n_c HL_c.out; clear ho3; have HB3 := Lib.hid (HB2.out.trans (hb3.mono HB2.out.size)); have R3 := Lib.hid (R2.out.on hb3 (Nat.le_refl _)); have S3 := Lib.hid hr3; clear hr3 hb3)
      | (go_at_call 32; refine (HA1.out w1 HB1.out).mono ?_; rintro e w2 ⟨v2, rfl, ho2, hb2⟩; obtain ⟨A2, c2, rfl, hr2⟩ := os_i ho2 n_l HL_l.out; clear ho2; have HB2 := Lib.hid (HB1.out.trans (hb2.mono HB1.out.size)); have R2 := Lib.hid hr2; clear hr2 hb2)
      | (go_at_call 34; refine (alive9_any _).mono ?_; rintro e w1 ⟨rfl, hb1⟩; have HB1 := Lib.hid hb1; clear hb1))
      go_loopw [13, 33] (fun _ i wr => ∃ k : Nat, k ≤ n_p ∧ i = .int .i64 k ∧ Hid (Below w4.heap.size w4 wr)) (fun _ i _ => n_p - (intOf i).toNat)
      case atStart => exact ⟨0, by omega, rfl, Lib.hid (Below.refl _ _)⟩
      case round =>
        obtain ⟨k, hk, rfl, HW⟩ := hrel
        have hsz := HW.out.size
        by_cases hlt : k < n_p
        · obtain ⟨q, hq⟩ := HX.out k hlt
          obtain ⟨b, off, hAe, hb⟩ := P4.out.open (by omega)
          subst hAe
          have hcs := (P4.out.below HW.out).at_ fI_len hq
          have qc : wr.cell? ⟨b, off + k, none⟩ = some (.int .i64 q) := by have := hcs 0 _ rfl; rwa [Nat.mul_one, Nat.add_zero] at this
          have HIN1 := Lib.hid (HL1.out k q hq)
          have HCON := Lib.hid (containsI_yes A2 n_l c2 less q wr w4.heap.size (R4.out.below HW.out) HL_n.out HIN1.out)
          have HIN2 := Lib.hid (HL2.out k q hq)
          have HS := Lib.hid (S4.out.on HW.out (Nat.le_refl _))
          clear hcs hq hb
          go_wp2_with (first
          | (go_at_call 35; refine (containsI_yes A6 n_m c6 more q w6 _ hr6 HM_n.out HIN2.out).mono ?_; rintro e w7 ⟨rfl, hw7⟩; rw [hw7]; clear hw7)
          | (go_at_call 32; refine (HA3.out A3 c3 wr HS.out).mono ?_; rintro e w6 ⟨v6, rfl, ho6, hb6⟩; obtain ⟨A6, c6, rfl, hr6⟩ := os_i ho6 n_m HL_m.out; clear ho6)
          | (go_at_call 35; refine HCON.out.mono ?_; rintro e w5 ⟨rfl, hw5⟩; rw [hw5]; clear hw5))
          go_roundw
          case rel => exact ⟨k + 1, by omega, by go_num, Lib.hid (HW.out.trans (hb6.mono hsz))⟩
          case measure => simp [intOf]; omega
        · go_wp2
          go_ret
          exact ⟨rfl, HB4.out.trans (HW.out.mono HB4.out.size)⟩
    · have hE1 : (cutE xs a b == 0) = false := by rw [beq_eq_false_iff_ne]; exact hE
      generalize cutE xs a b = E at *
      generalize allP (cutL xs a b) count = more at *
      generalize hlm : more.length = n_m at *
      have HL_m := Lib.hid hlm
      clear hlm
      generalize cutL xs a b = cc at *
      generalize hlc : cc.length = n_c at *
      have HL_c := Lib.hid hlc
      clear hlc
      generalize allP xs (count - 1) = less at *
      generalize hll : less.length = n_l at *
      have HL_l := Lib.hid hll
      clear hll
      generalize allP xs count = pl at *
      generalize hlp : pl.length = n_p at *
      have HL_p := Lib.hid hlp
      clear hlp hz hh
      clear hE
      go_enter Try.func9, Try.ntmps9
      go_wp2_with (first
      | (go_at_call 32; refine (HA2.out w3 HB3.out).mono ?_; rintro e w4 ⟨v4, rfl, ho4, hb4⟩; obtain ⟨A4, c4, rfl, hr4⟩ := os_i ho4 n_p HL_p.out; clear ho4; have HB4 := Lib.hid (HB3.out.trans (hb4.mono HB3.out.size)); have R4 := Lib.hid (R3.out.on hb4 (Nat.le_refl _)); have S4 := Lib.hid (S3.out.on hb4 (Nat.le_refl _)); have P4 := Lib.hid hr4; clear hr4 hb4)
      | (go_at_call 14; refine (HC.out w2 HB2.out).mono ?_; rintro e w3 ⟨v3, rfl, ho3, hb3⟩; obtain ⟨A3, c3, rfl, hr3⟩ := os_n ho3 n_c HL_c.out; clear ho3; have HB3 := Lib.hid (HB2.out.trans (hb3.mono HB2.out.size)); have R3 := Lib.hid (R2.out.on hb3 (Nat.le_refl _)); have S3 := Lib.hid hr3; clear hr3 hb3)
      | (go_at_call 32; refine (HA1.out w1 HB1.out).mono ?_; rintro e w2 ⟨v2, rfl, ho2, hb2⟩; obtain ⟨A2, c2, rfl, hr2⟩ := os_i ho2 n_l HL_l.out; clear ho2; have HB2 := Lib.hid (HB1.out.trans (hb2.mono HB1.out.size)); have R2 := Lib.hid hr2; clear hr2 hb2)
      | (go_at_call 34; refine (alive9_any _).mono ?_; rintro e w1 ⟨rfl, hb1⟩; have HB1 := Lib.hid hb1; clear hb1))
      go_loopw [13, 33] (fun _ i wr => ∃ k : Nat, k ≤ n_p ∧ i = .int .i64 k ∧ Hid (Below w4.heap.size w4 wr)) (fun _ i _ => n_p - (intOf i).toNat)
      case atStart => exact ⟨0, by omega, rfl, Lib.hid (Below.refl _ _)⟩
      case round =>
        obtain ⟨k, hk, rfl, HW⟩ := hrel
        have hsz := HW.out.size
        by_cases hlt : k < n_p
        · obtain ⟨q, hq⟩ := HX.out k hlt
          obtain ⟨b, off, hAe, hb⟩ := P4.out.open (by omega)
          subst hAe
          have hcs := (P4.out.below HW.out).at_ fI_len hq
          have qc : wr.cell? ⟨b, off + k, none⟩ = some (.int .i64 q) := by have := hcs 0 _ rfl; rwa [Nat.mul_one, Nat.add_zero] at this
          have HIN1 := Lib.hid (HL1.out k q hq)
          have HCON := Lib.hid (containsI_yes A2 n_l c2 less q wr w4.heap.size (R4.out.below HW.out) HL_n.out HIN1.out)
          clear hcs hq hb
          go_wp2_with (first
          | (go_at_call 35; refine HCON.out.mono ?_; rintro e w5 ⟨rfl, hw5⟩; rw [hw5]; clear hw5))
          go_roundw
          case rel => exact ⟨k + 1, by omega, by go_num, HW⟩
          case measure => simp [intOf]; omega
        · go_wp2
          go_ret
          exact ⟨rfl, HB4.out.trans (HW.out.mono HB4.out.size)⟩
  · have h3 : count < 2 := by omega
    clear hz
    go_enter Try.func9, Try.ntmps9
    go_wp2_with (go_at_call 34; refine (alive9_any _).mono ?_; rintro e w1 ⟨rfl, hb1⟩)
    go_ret
    exact ⟨rfl, hb1⟩
end Go.Proofs.Ytnpmbjplmollkaa
