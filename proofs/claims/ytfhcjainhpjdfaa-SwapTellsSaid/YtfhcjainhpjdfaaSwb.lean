/- swap.Put, Share, Drop. -/
import Derived.Test.YtfhcjainhpjdfaaSwa
namespace Go.Proofs.Ytfhcjainhpjdfaa
open Go.ChangeShapes Go.WideShapes Go.ChangeAt Go.RowKit Go.Joins
set_option linter.unusedVariables false

set_option maxHeartbeats 1000000 in
theorem put_any (A : Option Addr) (n c : Nat) (xs : List Slv) (ss : List Slo) (bA : Option Addr) (bn bc : Nat) (bs : List Int) (tA : Option Addr) (tn tc : Nat) (ts : List Int) (refs : Int) (w : World) (hz : Rw fS 3 w w.heap.size A n xs) (hs : Sls w w.heap.size xs ss)
    (hb : Row .u8 w w.heap.size bA bn bs) (ht : Row .i64 w w.heap.size tA tn ts) (hbig : n ≤ 2513169434916) :
    Calls Try.prog 21 #[.slice A n c, .slice bA bn bc, .slice tA tn tc, .int .i64 refs] w (TPutS (putN ss bs ts refs) (putE ss bs ts refs) (putS ss bs ts refs) w) := by
  have hbl := hb.1
  have htl := ht.1
  have hnl := hz.1
  by_cases hE2 : bs.length ≠ 64 ∨ ts.length ≠ 4 ∨ refs < 1 ∨ 4 < refs
  · have hE : putE ss bs ts refs = 2 := by unfold putE; rw [if_pos hE2]
    have hN : putN ss bs ts refs = 0 := by unfold putN; rw [hE]; rfl
    have hS : putS ss bs ts refs = [] := by unfold putS; rw [hE]; rfl
    rw [hE, hN, hS]
    clear hE hN hS hz hs hb ht
    rw [hbl, htl] at hE2
    clear hbl htl hnl
    have fin : TPutS ((0 : Nat) : Int) 2 [] w (.returned (.tuple #[.slice none 0 0, .int .i64 0, .int .i64 2])) w := ⟨none, 0, 0, Nat.le_refl _, rfl, slg_nil (Below.refl _ _)⟩
    have FIN := Lib.hid fin
    clear fin
    by_cases h1 : bn = 64
    · have e1 : ((bn : Int) != 64) = false := by subst h1; rfl
      by_cases h2 : tn = 4
      · have e2 : ((tn : Int) != 4) = false := by subst h2; rfl
        have h3 : refs < 1 ∨ (1 ≤ refs ∧ 4 < refs) := by omega
        clear h1 h2 hE2
        rcases h3 with h3 | ⟨h3, h4⟩
        · go_enter Try.func21, Try.ntmps21
          go_wp2
          go_ret3
          exact FIN.out
        · go_enter Try.func21, Try.ntmps21
          go_wp2
          go_ret3
          exact FIN.out
      · have e2 : ((tn : Int) != 4) = true := by rw [bne_iff_ne]; omega
        clear h1 h2 hE2
        go_enter Try.func21, Try.ntmps21
        go_wp2
        go_ret3
        exact FIN.out
    · have e1 : ((bn : Int) != 64) = true := by rw [bne_iff_ne]; omega
      clear h1 hE2
      go_enter Try.func21, Try.ntmps21
      go_wp2
      go_ret3
      exact FIN.out
  · have h1 : bn = 64 := by omega
    have h2 : tn = 4 := by omega
    have h3 : 1 ≤ refs := by omega
    have h4 : refs ≤ 4 := by omega
    subst h1 h2
    have hcall := indexFunc_S 36 #[] (enters_of Try.func36 (by kernel_rfl) rfl) (fun x => decide (x.r < 1)) A n c xs w w.heap.size w.heap.size hz (Nat.le_refl _) (Nat.le_refl _) (by omega) (free_pred _ _)
    by_cases hf : ss.findIdx freeS < ss.length
    · have hE : putE ss bs ts refs = 0 := by unfold putE; rw [if_neg hE2, if_pos hf]
      have hN : putN ss bs ts refs = ss.findIdx freeS := by unfold putN; rw [if_pos hE]
      have hS : putS ss bs ts refs = ss.set (ss.findIdx freeS) ⟨refs, bs, ts⟩ := by unfold putS; rw [if_pos hE]
      rw [hE, hN, hS]
      have hi : idxOf (fun x : Slv => decide (x.r < 1)) xs = ((ss.findIdx freeS : Nat) : Int) := by unfold idxOf; rw [free_idx hs, if_pos (by rw [hs.1]; exact hf)]
      rw [hi] at hcall
      clear hE hN hS hi hE2
      have hfn : ss.findIdx freeS < n := by rw [← hnl, hs.1]; exact hf
      generalize ss.findIdx freeS = i at *
      have HZ := Lib.hid hz
      have HSs := Lib.hid hs
      have HB := Lib.hid hb
      have HT := Lib.hid ht
      clear hz hs hb ht hbl htl hnl hf
      go_enter Try.func21, Try.ntmps21
      go_wp2_with fail
      refine hcall.mono ?_
      clear hcall
      rintro e w1 ⟨rfl, hb1⟩
      have HB1 := Lib.hid hb1
      clear hb1
      go_wp2_with fail
      refine (clone_any bA 64 bc bs _ _ (HB.out.on HB1.out (Nat.le_refl _)) (Nat.le_refl _) (by omega)).mono ?_
      rintro e w2 ⟨bA2, bc2, rfl, hbo, hb2⟩
      have HBO := Lib.hid hbo.row
      have HB2 := Lib.hid hb2
      clear hbo hb2
      go_wp2_with fail
      refine (cloneI_any tA 4 tc ts _ _ ((HT.out.on HB1.out (Nat.le_refl _)).on HB2.out (Nat.le_refl _)) (Nat.le_refl _) (by omega)).mono ?_
      rintro e w3 ⟨tA2, tc2, rfl, hto, hb3⟩
      have HTO := Lib.hid hto.row
      have HB3 := Lib.hid hb3
      have HW3 : Hid (Below w.heap.size w w3) := Lib.hid (HB1.out.trans ((HB2.out.trans (hb3.mono HB2.out.size)).mono HB1.out.size))
      have hs3 := HW3.out.size
      clear hto hb3
      go_wp2_with fail
      refine (own_any A n c xs _ w.heap.size (HZ.out.below HW3.out) hs3 i hfn ⟨refs, bA2, 64, bc2, tA2, 4, tc2⟩ hbig).mono ?_
      rintro e w4 ⟨v, rfl, ho, hb4⟩
      obtain ⟨A4, c4, rfl, hnc4, _, hr⟩ := ho.row fS_len
      rw [List.length_set] at hr hnc4
      have HR := Lib.hid hr
      have HB4 := Lib.hid hb4
      clear ho hr hb4
      go_wp2
      go_ret3
      exact ⟨A4, _, c4, hnc4, rfl, _, HR.out, ((HSs.out.below HW3.out).any hs3 |>.on HB4.out (Nat.le_refl _)).set ⟨rfl, (HBO.out.on HB3.out (Nat.le_refl _)).on HB4.out (Nat.le_refl _), HTO.out.on HB4.out (Nat.le_refl _), (show (64 : Nat) ≤ 140737488351232 by decide), (show (4 : Nat) ≤ 17592186043904 by decide), (show I64 refs by unfold I64; omega)⟩, HW3.out.trans (HB4.out.mono hs3)⟩
    · have hE : putE ss bs ts refs = 4 := by unfold putE; rw [if_neg hE2, if_neg hf]
      have hN : putN ss bs ts refs = 0 := by unfold putN; rw [hE]; rfl
      have hS : putS ss bs ts refs = [] := by unfold putS; rw [hE]; rfl
      rw [hE, hN, hS]
      have hi : idxOf (fun x : Slv => decide (x.r < 1)) xs = -1 := by unfold idxOf; rw [free_idx hs, if_neg (by rw [hs.1]; exact hf)]
      rw [hi] at hcall
      clear hE hN hS hi hz hs hb ht hbl htl hnl hE2
      go_enter Try.func21, Try.ntmps21
      go_wp2_with (go_at_call 35; refine hcall.mono ?_; rintro e w1 ⟨rfl, hb1⟩)
      go_ret3
      exact ⟨none, 0, 0, Nat.le_refl _, rfl, slg_nil hb1⟩

set_option maxHeartbeats 1000000 in
theorem share_any (A : Option Addr) (n c : Nat) (xs : List Slv) (ss : List Slo) (k : Int) (w : World) (hz : Rw fS 3 w w.heap.size A n xs) (hs : Sls w w.heap.size xs ss) (hbig : n ≤ 2513169434916) (E : Int) (R : List Slo)
    (h : (deadAt ss k ∧ E = 3 ∧ R = []) ∨ (∃ s, liveAt ss k s ∧ ((3 < s.r ∧ E = 4 ∧ R = []) ∨ (s.r ≤ 3 ∧ E = 0 ∧ R = ss.set k.toNat (bump s 1))))) :
    Calls Try.prog 27 #[.slice A n c, .int .i64 k] w (TRefS E R w) := by
  rcases h with ⟨hd, rfl, rfl⟩ | ⟨s, hl, h⟩
  · have hcall := slot_no A n c xs ss w _ _ hz hs k hd
    clear hz hs hd
    go_enter Try.func27, Try.ntmps27
    go_wp2_with (go_at_call 40; refine hcall.mono ?_; rintro e w1 ⟨rfl, rfl⟩)
    go_ret2
    exact ⟨none, 0, 0, rfl, slg_nil (Below.refl _ _)⟩
  · have hcall := slot_yes A n c xs ss w _ _ hz hs k s hl
    obtain ⟨h0, h1, h2⟩ := hl
    obtain ⟨i, rfl⟩ := Int.eq_ofNat_of_zero_le h0
    rw [Int.toNat_natCast] at h1 h
    have hi : i < n := by have := (List.getElem?_eq_some_iff.1 h1).1; rw [← hz.1, hs.1]; exact this
    obtain ⟨b, off, rfl, hb⟩ := hz.open (by omega)
    obtain ⟨x, s', hx, hs', hr⟩ := hs.get (i := i) (by rw [hz.1]; exact hi)
    rw [h1] at hs'; cases hs'
    have c0 : w.cell? ⟨b, off + i * 3, none⟩ = some (.int .i64 x.r) := hz.at_ fS_len hx 0 _ rfl
    have c1 : w.cell? ⟨b, off + i * 3 + 1, none⟩ = some (.slice x.bA x.bn x.bc) := hz.at_ fS_len hx 1 _ rfl
    have c2 : w.cell? ⟨b, off + i * 3 + 2, none⟩ = some (.slice x.tA x.tn x.tc) := hz.at_ fS_len hx 2 _ rfl
    have hin : (i : Int) < (n : Int) := by omega
    have hxr : x.r = s.r := hr.r
    have HR := Lib.hid hr
    have HZ := Lib.hid hz
    have HSs := Lib.hid hs
    clear h1 hx hr hz hs h0
    rcases h with ⟨h3, rfl, rfl⟩ | ⟨h3, rfl, rfl⟩
    · have h3' : 3 < x.r := by omega
      clear h3 h2 hxr
      go_enter Try.func27, Try.ntmps27
      go_wp2_with (go_at_call 40; refine hcall.mono ?_; rintro e w1 ⟨rfl, rfl⟩)
      go_ret2
      exact ⟨none, 0, 0, rfl, slg_nil (Below.refl _ _)⟩
    · have h3' : x.r ≤ 3 := by omega
      have h2' : 0 < x.r := by omega
      have HXR := Lib.hid hxr
      clear h3 h2 hxr
      go_enter Try.func27, Try.ntmps27
      go_wp2_with fail
      refine hcall.mono ?_
      clear hcall
      rintro e w1 ⟨rfl, rfl⟩
      go_wp2_with fail
      have HW0 := Lib.hid ((Below.refl w.heap.size w).alloc (Nat.le_refl _) (.cells #[.int .i64 (x.r + 1), .slice x.bA x.bn x.bc, .slice x.tA x.tn x.tc] 52))
      refine (own_any _ n c xs _ w.heap.size (HZ.out.below HW0.out) HW0.out.size i hi ⟨x.r + 1, x.bA, x.bn, x.bc, x.tA, x.tn, x.tc⟩ hbig).mono ?_
      rintro e w4 ⟨v, rfl, ho, hb4⟩
      obtain ⟨A4, c4, rfl, _, _, hr⟩ := ho.row fS_len
      rw [List.length_set] at hr
      have HR4 := Lib.hid hr
      have HB4 := Lib.hid (HW0.out.trans (hb4.mono HW0.out.size))
      clear ho hr hb4 c0 c1 c2
      go_wp2
      go_ret2
      refine ⟨A4, _, c4, rfl, _, HR4.out, (HSs.out.on HB4.out (Nat.le_refl _)).set ?_, HB4.out⟩
      have h := HR.out.on HB4.out (Nat.le_refl _)
      unfold bump
      rw [if_neg (by have := HXR.out; omega)]
      exact ⟨by show x.r + 1 = s.r + 1; rw [HXR.out], h.b, h.t, h.bn, h.tn, by have := HXR.out; show I64 (s.r + 1); unfold I64; omega⟩

set_option maxHeartbeats 1000000 in
theorem sdrop_any (A : Option Addr) (n c : Nat) (xs : List Slv) (ss : List Slo) (k : Int) (w : World) (hz : Rw fS 3 w w.heap.size A n xs) (hs : Sls w w.heap.size xs ss) (hbig : n ≤ 2513169434916) (E : Int) (R : List Slo)
    (h : (deadAt ss k ∧ E = 3 ∧ R = []) ∨ (∃ s, liveAt ss k s ∧ E = 0 ∧ R = ss.set k.toNat (bump s (-1)))) :
    Calls Try.prog 25 #[.slice A n c, .int .i64 k] w (TRefS E R w) := by
  rcases h with ⟨hd, rfl, rfl⟩ | ⟨s, hl, rfl, rfl⟩
  · have hcall := slot_no A n c xs ss w _ _ hz hs k hd
    clear hz hs hd
    go_enter Try.func25, Try.ntmps25
    go_wp2_with (go_at_call 40; refine hcall.mono ?_; rintro e w1 ⟨rfl, rfl⟩)
    go_ret2
    exact ⟨none, 0, 0, rfl, slg_nil (Below.refl _ _)⟩
  · have hcall := slot_yes A n c xs ss w _ _ hz hs k s hl
    obtain ⟨h0, h1, h2⟩ := hl
    obtain ⟨i, rfl⟩ := Int.eq_ofNat_of_zero_le h0
    rw [Int.toNat_natCast] at h1 ⊢
    have hi : i < n := by have := (List.getElem?_eq_some_iff.1 h1).1; rw [← hz.1, hs.1]; exact this
    obtain ⟨b, off, rfl, hb⟩ := hz.open (by omega)
    obtain ⟨x, s', hx, hs', hr⟩ := hs.get (i := i) (by rw [hz.1]; exact hi)
    rw [h1] at hs'; cases hs'
    have c0 : w.cell? ⟨b, off + i * 3, none⟩ = some (.int .i64 x.r) := hz.at_ fS_len hx 0 _ rfl
    have c1 : w.cell? ⟨b, off + i * 3 + 1, none⟩ = some (.slice x.bA x.bn x.bc) := hz.at_ fS_len hx 1 _ rfl
    have c2 : w.cell? ⟨b, off + i * 3 + 2, none⟩ = some (.slice x.tA x.tn x.tc) := hz.at_ fS_len hx 2 _ rfl
    have hin : (i : Int) < (n : Int) := by omega
    have hxr : x.r = s.r := hr.r
    have HZ := Lib.hid hz
    have HSs := Lib.hid hs
    have hI := hr.i
    unfold I64 at hI
    have HR := Lib.hid hr
    clear hr
    have hI2 : x.r ≤ 9223372036854775807 := by omega
    have h2' : 0 < x.r := by omega
    have HXR := Lib.hid hxr
    clear h1 hx hz hs h0 h2 hxr hI
    cases hq : (x.r - 1 == 0) with
    | true =>
      have HQ := Lib.hid hq
      have hx1 : x.r = 1 := by have : x.r - 1 = 0 := by simpa using hq
                               omega
      clear hq h2' hI2
      rw [hx1] at c0
      have HX1 := Lib.hid hx1
      clear hx1
      go_enter Try.func25, Try.ntmps25
      go_wp2_with fail
      refine hcall.mono ?_
      clear hcall
      rintro e w1 ⟨rfl, rfl⟩
      go_wp2_with fail
      have HW0 := Lib.hid ((Below.refl w.heap.size w).alloc (Nat.le_refl _) (.cells #[.int .i64 0, .slice none 0 0, .slice none 0 0] 52))
      refine (own_any _ n c xs _ w.heap.size (HZ.out.below HW0.out) HW0.out.size i hi ⟨0, none, 0, 0, none, 0, 0⟩ hbig).mono ?_
      rintro e w4 ⟨v, rfl, ho, hb4⟩
      obtain ⟨A4, c4, rfl, _, _, hr⟩ := ho.row fS_len
      rw [List.length_set] at hr
      have HR4 := Lib.hid hr
      have HB4 := Lib.hid (HW0.out.trans (hb4.mono HW0.out.size))
      clear ho hr hb4 c0 c1 c2
      go_wp2
      go_ret2
      refine ⟨A4, _, c4, rfl, _, HR4.out, (HSs.out.on HB4.out (Nat.le_refl _)).set ?_, HB4.out⟩
      unfold bump
      rw [if_pos (by have := HXR.out; have := HX1.out; omega)]
      exact ⟨rfl, ⟨rfl, by simp, fun h => absurd h (Nat.lt_irrefl 0)⟩, ⟨rfl, by simp, fun h => absurd h (Nat.lt_irrefl 0)⟩, (show (0 : Nat) ≤ 140737488351232 by decide), (show (0 : Nat) ≤ 17592186043904 by decide), by show I64 0; unfold I64; omega⟩
    | false =>
      have HQ := Lib.hid hq
      go_enter Try.func25, Try.ntmps25
      go_wp2_with fail
      refine hcall.mono ?_
      clear hcall
      rintro e w1 ⟨rfl, rfl⟩
      go_wp2_with fail
      have HW0 := Lib.hid ((Below.refl w.heap.size w).alloc (Nat.le_refl _) (.cells #[.int .i64 (x.r - 1), .slice x.bA x.bn x.bc, .slice x.tA x.tn x.tc] 52))
      refine (own_any _ n c xs _ w.heap.size (HZ.out.below HW0.out) HW0.out.size i hi ⟨x.r - 1, x.bA, x.bn, x.bc, x.tA, x.tn, x.tc⟩ hbig).mono ?_
      rintro e w4 ⟨v, rfl, ho, hb4⟩
      obtain ⟨A4, c4, rfl, _, _, hr⟩ := ho.row fS_len
      rw [List.length_set] at hr
      have HR4 := Lib.hid hr
      have HB4 := Lib.hid (HW0.out.trans (hb4.mono HW0.out.size))
      clear ho hr hb4 c0 c1 c2
      go_wp2
      go_ret2
      refine ⟨A4, _, c4, rfl, _, HR4.out, (HSs.out.on HB4.out (Nat.le_refl _)).set ?_, HB4.out⟩
      have h := HR.out.on HB4.out (Nat.le_refl _)
      unfold bump
      rw [if_neg (by have := HXR.out; have := HQ.out; simp at this; omega)]
      exact ⟨by show x.r - 1 = s.r + -1; rw [HXR.out]; rfl, h.b, h.t, h.bn, h.tn, by have := HXR.out; show I64 (s.r + -1); unfold I64; omega⟩
end Go.Proofs.Ytfhcjainhpjdfaa
