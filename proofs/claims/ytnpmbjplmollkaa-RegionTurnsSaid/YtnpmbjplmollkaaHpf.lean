/- IChoose; PlaceTells, walked. -/
import Derived.Test.YtnpmbjplmollkaaHpe
namespace Go.Proofs.Ytnpmbjplmollkaa
open Go.ChangeShapes Go.WideShapes Go.ChangeAt Go.RowKit Go.Joins
set_option linter.unusedVariables false
set_option maxHeartbeats 2000000 in
set_option maxRecDepth 100000 in
theorem ichoose_any (A : Option Addr) (n c : Nat) (xs : List Rgn) (count draw : Int) (w : World) (B : Nat) (hz : Rw fR 6 w B A n xs) (hB : B ≤ w.heap.size) (hbig : n ≤ 140737488355328) (h64 : I64 count) (hd64 : I64 draw) :
    Calls Try.prog 30 #[.slice A n c, .int .i64 count, .int .i64 draw] w (Two (chN xs count draw) (chE xs count) w) := by
  have hright := hright_any A n c xs w B hz hB hbig
  have NO : Hid (∀ E : Int, chE xs count = E → E ≠ 0 → ∀ w', Below w.heap.size w w' → Two (chN xs count draw) (chE xs count) w (.returned (.tuple #[.int .i64 0, .int .i64 E])) w') := Lib.hid (fun E h h0 w' hb => by
    unfold chN; rw [h, if_neg h0]; exact ⟨rfl, hb⟩)
  cases hr : rightL xs with
  | false =>
    rw [hr] at hright
    have NO2 := Lib.hid (NO.out 1 (by unfold chE; rw [if_pos hr]) (by decide))
    clear hz NO hr
    go_enter Try.func30, Try.ntmps30
    go_wp2_with (go_at_call 39; refine hright.mono ?_; rintro e w' ⟨rfl, hb'⟩)
    go_ret2
    exact NO2.out _ hb'
  | true =>
    rw [hr] at hright
    by_cases hc : count < 1
    · have NO2 := Lib.hid (NO.out 2 (by unfold chE; rw [if_neg (by rw [hr]; simp), if_pos (.inl hc)]) (by decide))
      clear hz NO hr
      go_enter Try.func30, Try.ntmps30
      go_wp2_with (go_at_call 39; refine hright.mono ?_; rintro e w' ⟨rfl, hb'⟩)
      go_ret2
      exact NO2.out _ hb'
    · have hc1 : 1 ≤ count := by omega
      by_cases hc2 : 64 < count
      · have NO2 := Lib.hid (NO.out 2 (by unfold chE; rw [if_neg (by rw [hr]; simp), if_pos (.inr hc2)]) (by decide))
        clear hz NO hr
        go_enter Try.func30, Try.ntmps30
        go_wp2_with (go_at_call 39; refine hright.mono ?_; rintro e w' ⟨rfl, hb'⟩)
        go_ret2
        exact NO2.out _ hb'
      · have hc3 : count ≤ 64 := by omega
        have hall := fun (w' : World) (hb : Below w.heap.size w w') => iall_any A n c xs count w' B (hz.below (hb.mono hB)) (Nat.le_trans hB hb.size) hbig
        have HALL := Lib.hid hall
        have hal := allP_len xs count
        by_cases he : allP xs count = []
        · have NO2 := Lib.hid (NO.out 4 (by unfold chE; rw [if_neg (by rw [hr]; simp), if_neg (by omega), if_pos he]) (by decide))
          rw [he] at HALL
          clear hz NO hr hall he hal
          go_enter Try.func30, Try.ntmps30
          go_wp2_with (go_at_call 39; refine hright.mono ?_; rintro e w' ⟨rfl, hb'⟩)
          have hcall := HALL.out w' hb'
          have HB := Lib.hid hb'
          clear hb' HALL
          go_wp2_with (go_at_call 33; refine hcall.mono ?_; rintro e w2 ⟨v, rfl, ho, hb2⟩; obtain ⟨A2, c2, rfl, _, _, _⟩ := ho.row fI_len)
          go_ret2
          exact NO2.out _ (HB.out.trans (hb2.mono HB.out.size))
        · have hE : chE xs count = 0 := by unfold chE; rw [if_neg (by rw [hr]; simp), if_neg (by omega), if_neg he]
          have hN : chN xs count draw = (allP xs count).getD (idxC (allP xs count) draw).toNat 0 := by unfold chN; rw [if_pos hE]
          rw [hE, hN]
          clear NO hE hN hr
          generalize allP xs count = al at *
          have hl0 : 0 < al.length := List.length_pos_iff.2 he
          obtain ⟨hi0, hi1⟩ := idx_lt he draw
          have hq1 : -(al.length : Int) < draw.tmod al.length := Int.lt_tmod_of_pos draw (by omega)
          have hq2 : draw.tmod al.length < al.length := Int.tmod_lt_of_pos draw (by omega)
          have hI1 : draw.tmod al.length < 0 → idxC al draw = draw.tmod al.length + al.length := fun h => by
            unfold idxC
            rw [Int.tmod_eq_emod_of_nonneg (by omega), Int.emod_eq_of_lt (by omega) (by omega)]
          have hI2 : ¬ draw.tmod al.length < 0 → idxC al draw = draw.tmod al.length := fun h => by
            unfold idxC
            rw [Int.tmod_eq_emod_of_nonneg (a := draw.tmod al.length + al.length) (by omega), Int.add_emod_right, Int.emod_eq_of_lt (by omega) (by omega)]
          generalize idxC al draw = k at *
          obtain ⟨m, rfl⟩ := Int.eq_ofNat_of_zero_le hi0
          have hm : m < al.length := by omega
          have HGET : Hid (al.getD (Int.toNat m) 0 = al[m]) := Lib.hid (by simp [List.getD, hm])
          have HM : Hid (al[m]? = some al[m]) := Lib.hid (List.getElem?_eq_getElem hm)
          have hne : (al.length : Int) ≠ 0 := by omega
          have hnb : ((al.length : Int) == 0) = false := by simpa using hne
          generalize al[m] = z at *
          generalize al.getD (Int.toNat m) 0 = gd at *
          have hw : wrap64 (draw.tmod al.length + al.length) = draw.tmod al.length + al.length := by unfold wrap64; omega
          have hm0 : (0 : Int) ≤ (m : Int) := by omega
          have hm1 : (m : Int) < (al.length : Int) := by omega
          clear hz hall he hi0 hi1
          by_cases hr0 : draw.tmod al.length < 0
          · have hI := (hI1 hr0).symm
            clear hI1 hI2 hq1 hq2
            go_enter Try.func30, Try.ntmps30
            go_wp2_with (go_at_call 39; refine hright.mono ?_; rintro e w' ⟨rfl, hb'⟩)
            have hcall := HALL.out w' hb'
            have HB := Lib.hid hb'
            clear hb' HALL
            go_wp2_with (go_at_call 33; refine hcall.mono ?_; rintro e w2 ⟨v, rfl, ho, hb2⟩; obtain ⟨A2, c2, rfl, _, _, hrw⟩ := ho.row fI_len)
            obtain ⟨bb, off, rfl, hbb⟩ := hrw.open hl0
            generalize al.length = ln at *
            have hcell : w2.cell? ⟨bb, off + m, none⟩ = some (.int .i64 z) := by have := hrw.at_ fI_len HM.out 0 _ rfl; rwa [Nat.mul_one, Nat.add_zero] at this
            have HB2 := Lib.hid hb2
            clear ho hb2 hrw HM hl0 hne hnb hal
            go_wp2
            go_simp
            go_wp2
            go_ret2
            rw [HGET.out]
            exact ⟨rfl, HB.out.trans (HB2.out.mono HB.out.size)⟩
          · have hI := (hI2 hr0).symm
            have hr1 : 0 ≤ draw.tmod al.length := by omega
            clear hI1 hI2 hq1 hq2 hr0 hw
            go_enter Try.func30, Try.ntmps30
            go_wp2_with (go_at_call 39; refine hright.mono ?_; rintro e w' ⟨rfl, hb'⟩)
            have hcall := HALL.out w' hb'
            have HB := Lib.hid hb'
            clear hb' HALL
            go_wp2_with (go_at_call 33; refine hcall.mono ?_; rintro e w2 ⟨v, rfl, ho, hb2⟩; obtain ⟨A2, c2, rfl, _, _, hrw⟩ := ho.row fI_len)
            obtain ⟨bb, off, rfl, hbb⟩ := hrw.open hl0
            generalize al.length = ln at *
            have hcell : w2.cell? ⟨bb, off + m, none⟩ = some (.int .i64 z) := by have := hrw.at_ fI_len HM.out 0 _ rfl; rwa [Nat.mul_one, Nat.add_zero] at this
            have HB2 := Lib.hid hb2
            clear ho hb2 hrw HM hl0 hne hnb hal
            go_wp2
            go_simp
            go_wp2
            go_ret2
            rw [HGET.out]
            exact ⟨rfl, HB.out.trans (HB2.out.mono HB.out.size)⟩

set_option maxHeartbeats 4000000 in
set_option maxRecDepth 100000 in
theorem placeTells_walk {w : World} (A : Option Addr) (n c : Nat) (xs : List Rgn) (hz : Rw fR 6 w w.heap.size A n xs) (hwf : ∀ x ∈ xs, x.fits) (hcap : n ≤ c) (hmax : c ≤ maxLen) (big : c ≤ 3518437208780) (count : Int) (hh : I64 count) (draw : Int) (hd : I64 draw) :
    Calls Try.prog 8 #[.slice A n c, .int .i64 count, .int .i64 draw] w fun e w' => e = .returned (.bool true) ∧ Below w.heap.size w w' := by
  have hbig : n ≤ 140737488355328 := by omega
  clear hcap hmax big hwf
  have H1 := Lib.hid (choose_any A n c xs count draw w _ hz (Nat.le_refl _) hbig hh hd)
  have H2 := Lib.hid (fun w1 (h1 : Below w.heap.size w w1) => ichoose_any A n c xs count draw w1 w.heap.size (hz.below h1) h1.size hbig hh hd)
  have H3 := Lib.hid (fun w1 (h1 : Below w.heap.size w w1) => all_any A n c xs count w1 w.heap.size (hz.below h1) h1.size hbig hh)
  have H4 := Lib.hid (fun w1 (h1 : Below w.heap.size w w1) => iall_any A n c xs count w1 w.heap.size (hz.below h1) h1.size hbig)
  have hpl := allP_len xs count
  generalize allP xs count = pl at *
  generalize chN xs count draw = cn at *
  generalize chE xs count = ce at *
  generalize hlp : pl.length = n_p at *
  have HL := Lib.hid hlp
  have HNP : Hid (n_p ≤ 140737488355328) := Lib.hid (by omega)
  clear hz hbig hh hd hlp hpl
  go_enter Try.func8, Try.ntmps8
  go_wp2_with (first
    | (go_at_call 31; refine (equalI_same A3 A4 n_p c3 c4 pl w4 _ (row_of_rw R4.out) (row_of_rw S4.out) HNP.out).mono ?_; rintro e w5 ⟨rfl, hb5⟩)
    | (go_at_call 33; refine (H4.out w3 HB3.out).mono ?_; rintro e w4 ⟨v4, rfl, ho4, hb4⟩; obtain ⟨A4, c4, rfl, hr4⟩ := os_i ho4 n_p HL.out; clear ho4; have HB4 := Lib.hid (HB3.out.trans (hb4.mono HB3.out.size)); have R4 := Lib.hid (R3.out.on hb4 (Nat.le_refl _)); have S4 := Lib.hid hr4; clear hr4 hb4)
    | (go_at_call 32; refine (H3.out w2 HB2.out).mono ?_; rintro e w3 ⟨v3, rfl, ho3, hb3⟩; obtain ⟨A3, c3, rfl, hr3⟩ := os_i ho3 n_p HL.out; clear ho3; have HB3 := Lib.hid (HB2.out.trans (hb3.mono HB2.out.size)); have R3 := Lib.hid hr3; clear hr3 hb3)
    | (go_at_call 30; refine (H2.out w1 HB1.out).mono ?_; rintro e w2 ⟨rfl, hb2⟩; have HB2 := Lib.hid (HB1.out.trans (hb2.mono HB1.out.size)); clear hb2)
    | (go_at_call 29; refine H1.out.mono ?_; rintro e w1 ⟨rfl, hb1⟩; have HB1 := Lib.hid hb1; clear hb1))
  go_ret
  exact ⟨rfl, HB4.out.trans (hb5.mono HB4.out.size)⟩
end Go.Proofs.Ytnpmbjplmollkaa
