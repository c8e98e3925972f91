/- place.Choose. -/
import Derived.Test.YtnpmbjplmollkaaRgc
namespace Go.Proofs.Ytnpmbjplmollkaa
open Go.ChangeShapes Go.WideShapes Go.ChangeAt Go.RowKit Go.Joins
set_option linter.unusedVariables false
def idxC (al : List Int) (draw : Int) : Int := (draw.tmod al.length + al.length).tmod al.length
def chE (xs : List Rgn) (count : Int) : Int := if rightL xs = false then 1 else if count < 1 ∨ 64 < count then 2 else if allP xs count = [] then 4 else 0
def chN (xs : List Rgn) (count draw : Int) : Int := if chE xs count = 0 then (allP xs count).getD (idxC (allP xs count) draw).toNat 0 else 0
def Two (a b : Int) (w : World) (e : Ending) (w' : World) : Prop := e = .returned (.tuple #[.int .i64 a, .int .i64 b]) ∧ Below w.heap.size w w'
set_option maxHeartbeats 2000000 in
set_option maxRecDepth 100000 in
theorem choose_any (A : Option Addr) (n c : Nat) (xs : List Rgn) (count draw : Int) (w : World) (B : Nat) (hz : Rw fR 6 w B A n xs) (hB : B ≤ w.heap.size) (hbig : n ≤ 140737488355328) (h64 : I64 count) (hd64 : I64 draw) :
    Calls Try.prog 29 #[.slice A n c, .int .i64 count, .int .i64 draw] w (Two (chN xs count draw) (chE xs count) w) := by
  have hright := right_any A n c xs w B hz hB hbig
  have NO : Hid (∀ E : Int, chE xs count = E → E ≠ 0 → ∀ w', Below w.heap.size w w' → Two (chN xs count draw) (chE xs count) w (.returned (.tuple #[.int .i64 0, .int .i64 E])) w') := Lib.hid (fun E h h0 w' hb => by
    unfold chN; rw [h, if_neg h0]; exact ⟨rfl, hb⟩)
  cases hr : rightL xs with
  | false =>
    rw [hr] at hright
    have NO2 := Lib.hid (NO.out 1 (by unfold chE; rw [if_pos hr]) (by decide))
    clear hz NO hr
    go_enter Try.func29, Try.ntmps29
    go_wp2_with (go_at_call 26; refine hright.mono ?_; rintro e w' ⟨rfl, hb'⟩)
    go_ret2
    exact NO2.out _ hb'
  | true =>
    rw [hr] at hright
    by_cases hc : count < 1
    · have NO2 := Lib.hid (NO.out 2 (by unfold chE; rw [if_neg (by rw [hr]; simp), if_pos (.inl hc)]) (by decide))
      clear hz NO hr
      go_enter Try.func29, Try.ntmps29
      go_wp2_with (go_at_call 26; refine hright.mono ?_; rintro e w' ⟨rfl, hb'⟩)
      go_ret2
      exact NO2.out _ hb'
    · have hc1 : 1 ≤ count := by omega
      by_cases hc2 : 64 < count
      · have NO2 := Lib.hid (NO.out 2 (by unfold chE; rw [if_neg (by rw [hr]; simp), if_pos (.inr hc2)]) (by decide))
        clear hz NO hr
        go_enter Try.func29, Try.ntmps29
        go_wp2_with (go_at_call 26; refine hright.mono ?_; rintro e w' ⟨rfl, hb'⟩)
        go_ret2
        exact NO2.out _ hb'
      · have hc3 : count ≤ 64 := by omega
        have hall := fun (w' : World) (hb : Below w.heap.size w w') => all_any A n c xs count w' B (hz.below (hb.mono hB)) (Nat.le_trans hB hb.size) hbig h64
        have HALL := Lib.hid hall
        have hal := allP_len xs count
        by_cases he : allP xs count = []
        · have NO2 := Lib.hid (NO.out 4 (by unfold chE; rw [if_neg (by rw [hr]; simp), if_neg (by omega), if_pos he]) (by decide))
          rw [he] at HALL
          clear hz NO hr hall he hal
          go_enter Try.func29, Try.ntmps29
          go_wp2_with (go_at_call 26; refine hright.mono ?_; rintro e w' ⟨rfl, hb'⟩)
          have hcall := HALL.out w' hb'
          have HB := Lib.hid hb'
          clear hb' HALL
          go_wp2_with (go_at_call 32; refine hcall.mono ?_; rintro e w2 ⟨v, rfl, ho, hb2⟩; obtain ⟨A2, c2, rfl, _, _, _⟩ := ho.row fI_len)
          go_ret2
          exact NO2.out _ (HB.out.trans (hb2.mono HB.out.size))
        · have hE : chE xs count = 0 := by unfold chE; rw [if_neg (by rw [hr]; simp), if_neg (by omega), if_neg he]
          have hN : chN xs count draw = (allP xs count).getD (idxC (allP xs count) draw).toNat 0 := by unfold chN; rw [if_pos hE]
          rw [hE, hN]
          clear NO hE hN hr
          generalize allP xs count = al at *
          have hl0 : 0 < al.length := List.length_pos_iff.2 he
          have hi0 : 0 ≤ idxC al draw := by unfold idxC; exact Int.tmod_nonneg _ (by have := Int.lt_tmod_of_pos draw (b := al.length) (by omega); omega)
          have hi1 : idxC al draw < al.length := by unfold idxC; exact Int.tmod_lt_of_pos _ (by omega)
          have hq1 : -(al.length : Int) < draw.tmod al.length := Int.lt_tmod_of_pos draw (by omega)
          have hq2 : draw.tmod al.length < al.length := Int.tmod_lt_of_pos draw (by omega)
          have hI : (draw.tmod al.length + al.length).tmod al.length = idxC al draw := rfl
          generalize idxC al draw = k at *
          obtain ⟨m, rfl⟩ := Int.eq_ofNat_of_zero_le hi0
          have hm : m < al.length := by omega
          have HGET : Hid (al.getD (Int.toNat m) 0 = al[m]) := Lib.hid (by simp [List.getD, hm])
          have HM : Hid (al[m]? = some al[m]) := Lib.hid (List.getElem?_eq_getElem hm)
          have hne : (al.length : Int) ≠ 0 := by omega
          have hnb : ((al.length : Int) == 0) = false := by simpa using hne
          generalize al[m] = z at *
          generalize al.getD (Int.toNat m) 0 = gd at *
          have hw : wrap64 (draw.tmod al.length + al.length) = draw.tmod al.length + al.length := by unfold wrap64; omega
          have hm0 : (0 : Int) ≤ (m : Int) := by omega
          have hm1 : (m : Int) < (al.length : Int) := by omega
          clear hq1 hq2
          clear hz hall he hi0 hi1
          go_enter Try.func29, Try.ntmps29
          go_wp2_with (go_at_call 26; refine hright.mono ?_; rintro e w' ⟨rfl, hb'⟩)
          have hcall := HALL.out w' hb'
          have HB := Lib.hid hb'
          clear hb' HALL
          go_wp2_with (go_at_call 32; refine hcall.mono ?_; rintro e w2 ⟨v, rfl, ho, hb2⟩; obtain ⟨A2, c2, rfl, _, _, hrw⟩ := ho.row fI_len)
          obtain ⟨bb, off, rfl, hbb⟩ := hrw.open hl0
          generalize al.length = ln at *
          have hcell : w2.cell? ⟨bb, off + m, none⟩ = some (.int .i64 z) := by have := hrw.at_ fI_len HM.out 0 _ rfl; rwa [Nat.mul_one, Nat.add_zero] at this
          have HB2 := Lib.hid hb2
          clear ho hb2 hrw HM hl0 hne hnb hal
          go_wp2
          go_simp
          go_wp2
          go_ret2
          rw [HGET.out]
          exact ⟨rfl, HB.out.trans (HB2.out.mono HB.out.size)⟩
end Go.Proofs.Ytnpmbjplmollkaa
