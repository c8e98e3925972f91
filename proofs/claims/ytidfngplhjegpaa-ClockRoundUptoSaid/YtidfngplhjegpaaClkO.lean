/- clock.Next, where it goes round. -/
import Derived.Test.YtidfngplhjegpaaClkN
import Derived.Deep.LoopGhost
namespace Go.Proofs.Ytidfngplhjegpaa
open Go.RowKit Go.Sort
set_option linter.unusedVariables false

theorem below_drewN (B : Nat) (w : World) (k : Nat) : Below B w (w.drewN k) := ⟨rfl, rfl, rfl, Nat.le_refl _, fun _ _ => rfl⟩

set_option maxHeartbeats 4000000 in
theorem next_e0 (A1 A2 : Option Addr) (n c1 c2 h : Nat) (may used : List Bool) (w : World) (B : Nat) (hm : Rw fB 1 w B A1 n may) (hu : Rw fB 1 w B A2 n used) (hB : B ≤ w.heap.size) (hh : h < n) (hf : Hid (decide (firstT may < n) = true)) (m1 : n ≤ 140737488355328) :
    Calls Try.prog 30 #[.int .i64 h, .slice A1 n c1, .slice A2 n c2] w fun e w' => ∃ A' c', e = .returned (.tuple #[.int .i64 (victim may used h n : Nat), .int .i64 ((victim may used h n + 1) % n : Nat), .slice A' n c', .int .i64 0]) ∧ Ow fB 1 4 w' w.heap.size A' n c' (outF may used h n) ∧ Below w.heap.size w w' := by
  have hml := hm.1
  have hul := hu.1
  have hMay : kMay may h n < n := kMay_lt hh hml (by have := hf.out; simp at this; omega)
  obtain ⟨b, off, rfl, hb1⟩ := rwB_open hm (by omega)
  have HML := Lib.hid hml
  have HUL := Lib.hid hul
  have HM := Lib.hid hm
  have HU := Lib.hid hu
  have H1 := Lib.hid (fun (k : Nat) (hk : k < kTot may used h n) hm => step_no (may := may) (used := used) hh hMay hk hm)
  have H2 := Lib.hid (step_yes (may := may) (used := used) hh hMay)
  have H0 := Lib.hid hMay
  clear hm hu hml hul hMay
  go_enter Try.func30, Try.ntmps30
  go_wp2_with fail
  refine (contains_any _ n c1 may _ B HM.out m1).mono ?_
  rintro e w1 ⟨rfl, hw1⟩
  rw [hw1, hf.out]
  clear hw1
  go_wp2_with fail
  refine (cloneB_any A2 n c2 used _ B HU.out hB m1).mono ?_
  rintro e w1 ⟨A', c', rfl, ho, hbw⟩
  have hz1 := hbw.size
  obtain ⟨g, cur0, e9, hg, _, _⟩ := ho.2.2.2 (by omega)
  subst e9
  have HO := Lib.hid ho
  clear ho
  go_wp2
  go_loopg [12] (kTot may used h n) (fun r a wr => ∃ k, k + r = kTot may used h n ∧ a = .int .i64 (rk h n k : Nat) ∧ Ow fB 1 4 wr w.heap.size (some ⟨g, 0, none⟩) n c' (outK may used h n k) ∧ Below w.heap.size w wr)
  case atStart => exact ⟨0, by omega, by rw [rk_0 hh], HO.out, hbw⟩
  case round =>
    obtain ⟨k, hk, rfl, how, hbr⟩ := hrel
    have hl : rk h n k < n := rk_lt k (by omega)
    have hcm : wr.cell? ⟨b, off + rk h n k, none⟩ = some (.bool (mb may (rk h n k))) := rwB_at (HM.out.below (hbr.mono hB)) hl
    have hro := how.row
    have hcu : wr.cell? ⟨g, 0 + rk h n k, none⟩ = some (.bool (mb (outK may used h n k) (rk h n k))) := rwB_at hro hl
    rw [Nat.zero_add] at hcu
    have hfz : wr.frozen? ⟨g, rk h n k, none⟩ = false := by
      obtain ⟨g', cur, e, _, hh', _⟩ := how.2.2.2 (by omega)
      injection e with e; injection e with e; subst e
      exact blk_free hh' _
    have HW := Lib.hid how
    have HK := Lib.hid hk
    have hr9 : Hid (rk h n (k + 1) = (rk h n k + 1) % n) := Lib.hid rk_succ
    have hsu := outK_succ (may := may) (used := used) (h := h) (n := n) k
    have HS := Lib.hid hsu
    have hno := H1.out k
    have hvi : gk = 0 → rk h n k = victim may used h n ∧ outK may used h n k = outF may used h n := fun e => by
      have : k = kTot may used h n := by omega
      rw [this]; exact ⟨rfl, rfl⟩
    have HV := Lib.hid hvi
    have HN : Hid (0 < gk → mb may (rk h n k) = true → mb (outK may used h n k) (rk h n k) = true) := Lib.hid (fun h1 h2 => hno (by omega) h2)
    clear how hk hsu hno hvi hro
    generalize hre : rk h n k = r at *
    have HRE := Lib.hid hre
    clear hre
    have hrm : ((r : Int) + 1).tmod (n : Int) = (((r + 1) % n : Nat) : Int) := by rw [Int.tmod_eq_emod_of_nonneg (by omega)]; rfl
    have HRM := Lib.hid hrm
    rcases Nat.eq_zero_or_pos gk with hg0 | hg0
    · obtain ⟨v1, v2⟩ := HV.out hg0
      have hmv := H2.out.1
      have huv := H2.out.2
      rw [← v1] at hmv huv
      rw [← v2] at huv
      rw [hmv] at hcm
      rw [huv] at hcu
      have HV1 := Lib.hid v1
      have HV2 := Lib.hid v2
      clear hmv huv v1 v2
      go_wp2
      go_quiet (fail)
      go_wp2
      refine bodyPost_ret (v := .tuple #[.int .i64 (r : Int), .int .i64 (((r : Int) + 1) % (n : Int)), .slice (some ⟨g, 0, none⟩) n c', .int .i64 0]) (by simp [results, Try.results30, go_sem]) rfl ⟨some ⟨g, 0, none⟩, c', ?_, ?_, ?_⟩
      · rw [← HV1.out]; simp
      · rw [← HV2.out]; exact HW.out.below (below_drewN _ _ _) (Nat.le_refl _)
      · exact hbr.trans (below_drewN _ _ _)
    · by_cases hmr : mb may r = true
      · have hur := HN.out hg0 hmr
        rw [hmr] at hcm
        rw [hur] at hcu
        rw [if_pos hmr] at HS
        have hxr : (outK may used h n k)[r]? = some true := by
          unfold mb at hur
          rcases hq : (outK may used h n k)[r]? with _ | b9
          · simp [List.getD, hq] at hur
          · simp [List.getD, hq] at hur; rw [hur]
        have HXR := Lib.hid hxr
        clear hmr hur hxr
        go_wp2
        go_roundg (gk - 1)
        case measure => omega
        case rel => exact ⟨k + 1, by have := HK.out; omega, by rw [hr9.out]; simp, by rw [HS.out]; exact Ow.set1 (y := false) (fv := Value.bool) HW.out HXR.out, hbr.setCell (by assumption) _⟩
      · rw [Bool.not_eq_true] at hmr
        rw [hmr] at hcm
        rw [if_neg (by rw [hmr]; decide)] at HS
        clear hmr
        go_wp2
        go_roundg (gk - 1)
        case measure => omega
        case rel => exact ⟨k + 1, by have := HK.out; omega, by rw [hr9.out]; simp, by rw [HS.out]; exact HW.out, hbr⟩

theorem next_any (A1 A2 : Option Addr) (n1 c1 n2 c2 : Nat) (may used : List Bool) (hand : Int) (w : World) (B : Nat) (hm : Rw fB 1 w B A1 n1 may) (hu : Rw fB 1 w B A2 n2 used) (hB : B ≤ w.heap.size) (m1 : n1 ≤ 140737488355328) (m2 : n2 ≤ 140737488355328) :
    Calls Try.prog 30 #[.int .i64 hand, .slice A1 n1 c1, .slice A2 n2 c2] w (TNext 4 hand may used w) := by
  have l1 := hm.1
  have l2 := hu.1
  by_cases h1 : n1 = n2
  · subst h1
    by_cases h2 : hand < 0 ∨ (n1 : Int) ≤ hand
    · have hE : nextE hand may used = 2 := by unfold nextE; rw [if_neg (by omega), if_pos (by omega)]
      exact (next_e2 A1 A2 n1 c1 c2 hand w (by omega) m1).mono fun e w' h => tnext_err hE (by decide) h
    · obtain ⟨h, rfl⟩ := Int.eq_ofNat_of_zero_le (show 0 ≤ hand by omega)
      by_cases h3 : firstT may < n1
      · have hE : nextE h may used = 0 := nextE_0.2 ⟨by omega, by omega, by omega, by omega⟩
        refine (next_e0 A1 A2 n1 c1 c2 h may used w B hm hu hB (by omega) (Lib.hid (by simpa using h3)) m1).mono ?_
        rintro e w' ⟨A', c', rfl, ho, hb⟩
        refine ⟨A', n1, c', ?_, ?_, hb⟩
        · unfold nextV nextH; rw [if_pos hE, if_pos hE, hE, Int.toNat_natCast, l1]
        · unfold nextU; rw [if_pos hE, Int.toNat_natCast, l1]; exact ho
      · have hE : nextE h may used = 3 := by unfold nextE; rw [if_neg (by omega), if_neg (by omega), if_neg (by omega)]
        exact (next_e3 A1 A2 n1 c1 c2 may h w B hm (by omega) (by omega) (Lib.hid (by simpa using h3)) m1).mono fun e w' h => tnext_err hE (by decide) h
  · have hE : nextE hand may used = 1 := by unfold nextE; rw [if_pos (by omega)]
    exact (next_e1 A1 A2 n1 c1 n2 c2 hand w h1 m1 m2).mono fun e w' h => tnext_err hE (by decide) h
end Go.Proofs.Ytidfngplhjegpaa
