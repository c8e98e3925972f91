/- BuddyOrder: its walk. -/
import Derived.Test.YtnbhchfpfbbngaaBdm
namespace Go.Proofs.Ytnbhchfpfbbngaa
open Go.ChangeShapes Go.WideShapes Go.ChangeAt Go.RowKit Go.Joins Go.Sort
set_option linter.unusedVariables false
set_option maxHeartbeats 4000000 in
set_option maxRecDepth 100000 in
theorem order_v {w : World} {v : Value} {xs : List Blk} (h : Bv w v xs) (hf : ∀ x ∈ xs, x.fits) (a b : Blk) (ha : a.fits) (hb : b.fits) :
    Calls Try.prog 5 #[v, .agg #[.int .i64 a.a, .int .i64 a.o], .agg #[.int .i64 b.a, .int .i64 b.o]] w fun e w' => e = .returned (.bool true) ∧ Below w.heap.size w w' := by
  have HV := Lib.hid h
  have HF := Lib.hid hf
  have HG := Lib.hid (fun (w1 : World) (u : Value) (ys : List Blk) (c : Blk) (h : Bv w1 u ys) (hy : ∀ x ∈ ys, x.fits) (hc : c.fits) => give_v h hy c hc)
  have HA1 := Lib.hid ha
  have HB1 := Lib.hid hb
  have HE := Lib.hid (fun (w : World) (v u : Value) (xs ys : List Blk) (h : Bv w v xs) (h2 : Bv w u ys) (he : xs = ys) => (by
    have := equal_v h h2
    rw [he, eqL_refl] at this; exact this : Calls Try.prog 13 #[v, u] w fun e w' => e = .returned (.bool true) ∧ Below w.heap.size w w'))
  have HRA := Lib.hid (rp_fits (giveS_rp xs a))
  have HRB := Lib.hid (rp_fits (giveS_rp xs b))
  have HCM := Lib.hid (fun (h1 : (giveS xs a).2 = 0) (h2 : (giveS xs b).2 = 0) => give_comm h1 h2)
  have HW0 := Lib.hid (show Below w.heap.size w ((w.alloc (.cells #[.int .i64 a.a, .int .i64 a.o] 30)).alloc (.cells #[.int .i64 b.a, .int .i64 b.o] 30)) from ((Below.refl w.heap.size w).alloc (Nat.le_refl _) _).alloc (by simp) _)
  have HAL := Lib.hid (alive2_any ((w.alloc (.cells #[.int .i64 a.a, .int .i64 a.o] 30)).alloc (.cells #[.int .i64 b.a, .int .i64 b.o] 30)))
  clear h hf ha hb
  obtain ⟨ga, hga⟩ : ∃ g, g = giveS xs a := ⟨_, rfl⟩
  obtain ⟨gb, hgb⟩ : ∃ g, g = giveS xs b := ⟨_, rfl⟩
  rw [← hga] at HRA HCM
  rw [← hgb] at HRB HCM
  have HGA := Lib.hid hga.symm
  have HGB := Lib.hid hgb.symm
  clear hga hgb
  obtain ⟨ga1, ga2⟩ := ga
  obtain ⟨gb1, gb2⟩ := gb
  simp only at HCM HRA HRB
  obtain ⟨y1, y2, hy⟩ : ∃ y1 y2, giveS ga1 b = (y1, y2) := ⟨_, _, rfl⟩
  obtain ⟨z1, z2, hz⟩ : ∃ y1 y2, giveS gb1 a = (y1, y2) := ⟨_, _, rfl⟩
  have HY := Lib.hid hy
  have HZ := Lib.hid hz
  rw [hy, hz] at HCM
  clear hy hz
  by_cases e1 : ga2 = 0
  · by_cases e2 : gb2 = 0
    · have HEQ : Hid (y1 = z1) := Lib.hid (congrArg Prod.fst (HCM.out e1 e2))
      have hyz : y2 = z2 := congrArg Prod.snd (HCM.out e1 e2)
      subst hyz e1 e2
      clear HCM
      go_enter Try.func5, Try.ntmps5
      go_wp2_with (first
        | (go_at_call 13
           refine (HE.out w5 u3 u5 y1 _ (M5.out) (B5.out) HEQ.out).mono ?_
           rintro e w6 ⟨rfl, hb6⟩
           have K6 := Lib.hid (K5.out.trans (hb6.mono K5.out.size))
           clear hb6)
        | (go_at_call 12
           refine (HG.out w4 u4 gb1 a B4.out HRB.out HA1.out).mono ?_
           rw [HZ.out]
           rintro e w5 ⟨u5, rfl, hu5, hb5⟩
           have B5 := Lib.hid hu5
           have K5 := Lib.hid (K4.out.trans (hb5.mono K4.out.size))
           have M5 := Lib.hid (M4.out.below hb5)
           clear hu5 hb5)
        | (go_at_call 12
           refine (HG.out w3 v xs b (HV.out.below (HW0.out.trans (K3.out.mono (by simp; omega)))) HF.out HB1.out).mono ?_
           rw [HGB.out]
           rintro e w4 ⟨u4, rfl, hu4, hb4⟩
           have B4 := Lib.hid hu4
           have K4 := Lib.hid (K3.out.trans (hb4.mono K3.out.size))
           have M4 := Lib.hid (B3.out.below hb4)
           have a40 : w4.cell? ⟨w.heap.size, 0, none⟩ = some (.int .i64 a.a) := by rw [K4.out.cell (p := ⟨w.heap.size, 0, none⟩) (by simp; omega)]; simp [go_sem]
           have a41 : w4.cell? ⟨w.heap.size, 1, none⟩ = some (.int .i64 a.o) := by rw [K4.out.cell (p := ⟨w.heap.size, 1, none⟩) (by simp; omega)]; simp [go_sem]
           clear hu4 hb4)
        | (go_at_call 12
           refine (HG.out w2 u2 ga1 b B2.out HRA.out HB1.out).mono ?_
           rw [HY.out]
           rintro e w3 ⟨u3, rfl, hu3, hb3⟩
           have B3 := Lib.hid hu3
           have K3 := Lib.hid (K2.out.trans (hb3.mono K2.out.size))
           have b30 : w3.cell? ⟨w.heap.size + 1, 0, none⟩ = some (.int .i64 b.a) := by rw [K3.out.cell (p := ⟨w.heap.size + 1, 0, none⟩) (by simp)]; simp [go_sem]
           have b31 : w3.cell? ⟨w.heap.size + 1, 1, none⟩ = some (.int .i64 b.o) := by rw [K3.out.cell (p := ⟨w.heap.size + 1, 1, none⟩) (by simp)]; simp [go_sem]
           clear hu3 hb3)
        | (go_at_call 12
           refine (HG.out w1 v xs a (HV.out.below (HW0.out.trans (K1.out.mono (by simp; omega)))) HF.out HA1.out).mono ?_
           rw [HGA.out]
           rintro e w2 ⟨u2, rfl, hu2, hb2⟩
           have B2 := Lib.hid hu2
           have K2 := Lib.hid (K1.out.trans (hb2.mono K1.out.size))
           have b20 : w2.cell? ⟨w.heap.size + 1, 0, none⟩ = some (.int .i64 b.a) := by rw [K2.out.cell (p := ⟨w.heap.size + 1, 0, none⟩) (by simp)]; simp [go_sem]
           have b21 : w2.cell? ⟨w.heap.size + 1, 1, none⟩ = some (.int .i64 b.o) := by rw [K2.out.cell (p := ⟨w.heap.size + 1, 1, none⟩) (by simp)]; simp [go_sem]
           clear hu2 hb2)
        | (go_at_call 10
           refine HAL.out.mono ?_
           rintro e w1 ⟨rfl, hb1⟩
           have K1 := Lib.hid hb1
           have a10 : w1.cell? ⟨w.heap.size, 0, none⟩ = some (.int .i64 a.a) := by rw [K1.out.cell (p := ⟨w.heap.size, 0, none⟩) (by simp; omega)]; simp [go_sem]
           have a11 : w1.cell? ⟨w.heap.size, 1, none⟩ = some (.int .i64 a.o) := by rw [K1.out.cell (p := ⟨w.heap.size, 1, none⟩) (by simp; omega)]; simp [go_sem]
           clear hb1))
      go_ret
      exact ⟨by first | rfl | simp, HW0.out.trans (K6.out.mono (by simp; omega))⟩
    · have hne : (gb2 != 0) = true := by rw [bne_iff_ne]; exact e2
      subst e1
      clear HCM
      go_enter Try.func5, Try.ntmps5
      go_wp2_with (first
        | (go_at_call 12
           refine (HG.out w4 u4 gb1 a B4.out HRB.out HA1.out).mono ?_
           rw [HZ.out]
           rintro e w5 ⟨u5, rfl, hu5, hb5⟩
           have B5 := Lib.hid hu5
           have K5 := Lib.hid (K4.out.trans (hb5.mono K4.out.size))
           have M5 := Lib.hid (M4.out.below hb5)
           clear hu5 hb5)
        | (go_at_call 12
           refine (HG.out w3 v xs b (HV.out.below (HW0.out.trans (K3.out.mono (by simp; omega)))) HF.out HB1.out).mono ?_
           rw [HGB.out]
           rintro e w4 ⟨u4, rfl, hu4, hb4⟩
           have B4 := Lib.hid hu4
           have K4 := Lib.hid (K3.out.trans (hb4.mono K3.out.size))
           have M4 := Lib.hid (B3.out.below hb4)
           have a40 : w4.cell? ⟨w.heap.size, 0, none⟩ = some (.int .i64 a.a) := by rw [K4.out.cell (p := ⟨w.heap.size, 0, none⟩) (by simp; omega)]; simp [go_sem]
           have a41 : w4.cell? ⟨w.heap.size, 1, none⟩ = some (.int .i64 a.o) := by rw [K4.out.cell (p := ⟨w.heap.size, 1, none⟩) (by simp; omega)]; simp [go_sem]
           clear hu4 hb4)
        | (go_at_call 12
           refine (HG.out w2 u2 ga1 b B2.out HRA.out HB1.out).mono ?_
           rw [HY.out]
           rintro e w3 ⟨u3, rfl, hu3, hb3⟩
           have B3 := Lib.hid hu3
           have K3 := Lib.hid (K2.out.trans (hb3.mono K2.out.size))
           have b30 : w3.cell? ⟨w.heap.size + 1, 0, none⟩ = some (.int .i64 b.a) := by rw [K3.out.cell (p := ⟨w.heap.size + 1, 0, none⟩) (by simp)]; simp [go_sem]
           have b31 : w3.cell? ⟨w.heap.size + 1, 1, none⟩ = some (.int .i64 b.o) := by rw [K3.out.cell (p := ⟨w.heap.size + 1, 1, none⟩) (by simp)]; simp [go_sem]
           clear hu3 hb3)
        | (go_at_call 12
           refine (HG.out w1 v xs a (HV.out.below (HW0.out.trans (K1.out.mono (by simp; omega)))) HF.out HA1.out).mono ?_
           rw [HGA.out]
           rintro e w2 ⟨u2, rfl, hu2, hb2⟩
           have B2 := Lib.hid hu2
           have K2 := Lib.hid (K1.out.trans (hb2.mono K1.out.size))
           have b20 : w2.cell? ⟨w.heap.size + 1, 0, none⟩ = some (.int .i64 b.a) := by rw [K2.out.cell (p := ⟨w.heap.size + 1, 0, none⟩) (by simp)]; simp [go_sem]
           have b21 : w2.cell? ⟨w.heap.size + 1, 1, none⟩ = some (.int .i64 b.o) := by rw [K2.out.cell (p := ⟨w.heap.size + 1, 1, none⟩) (by simp)]; simp [go_sem]
           clear hu2 hb2)
        | (go_at_call 10
           refine HAL.out.mono ?_
           rintro e w1 ⟨rfl, hb1⟩
           have K1 := Lib.hid hb1
           have a10 : w1.cell? ⟨w.heap.size, 0, none⟩ = some (.int .i64 a.a) := by rw [K1.out.cell (p := ⟨w.heap.size, 0, none⟩) (by simp; omega)]; simp [go_sem]
           have a11 : w1.cell? ⟨w.heap.size, 1, none⟩ = some (.int .i64 a.o) := by rw [K1.out.cell (p := ⟨w.heap.size, 1, none⟩) (by simp; omega)]; simp [go_sem]
           clear hb1))
      go_ret
      exact ⟨by first | rfl | simp, HW0.out.trans (K5.out.mono (by simp; omega))⟩
  · have hne : (ga2 != 0) = true := by rw [bne_iff_ne]; exact e1
    clear HCM
    go_enter Try.func5, Try.ntmps5
    go_wp2_with (first
      | (go_at_call 12
         refine (HG.out w4 u4 gb1 a B4.out HRB.out HA1.out).mono ?_
         rw [HZ.out]
         rintro e w5 ⟨u5, rfl, hu5, hb5⟩
         have B5 := Lib.hid hu5
         have K5 := Lib.hid (K4.out.trans (hb5.mono K4.out.size))
         have M5 := Lib.hid (M4.out.below hb5)
         clear hu5 hb5)
      | (go_at_call 12
         refine (HG.out w3 v xs b (HV.out.below (HW0.out.trans (K3.out.mono (by simp; omega)))) HF.out HB1.out).mono ?_
         rw [HGB.out]
         rintro e w4 ⟨u4, rfl, hu4, hb4⟩
         have B4 := Lib.hid hu4
         have K4 := Lib.hid (K3.out.trans (hb4.mono K3.out.size))
         have M4 := Lib.hid (B3.out.below hb4)
         have a40 : w4.cell? ⟨w.heap.size, 0, none⟩ = some (.int .i64 a.a) := by rw [K4.out.cell (p := ⟨w.heap.size, 0, none⟩) (by simp; omega)]; simp [go_sem]
         have a41 : w4.cell? ⟨w.heap.size, 1, none⟩ = some (.int .i64 a.o) := by rw [K4.out.cell (p := ⟨w.heap.size, 1, none⟩) (by simp; omega)]; simp [go_sem]
         clear hu4 hb4)
      | (go_at_call 12
         refine (HG.out w2 u2 ga1 b B2.out HRA.out HB1.out).mono ?_
         rw [HY.out]
         rintro e w3 ⟨u3, rfl, hu3, hb3⟩
         have B3 := Lib.hid hu3
         have K3 := Lib.hid (K2.out.trans (hb3.mono K2.out.size))
         have b30 : w3.cell? ⟨w.heap.size + 1, 0, none⟩ = some (.int .i64 b.a) := by rw [K3.out.cell (p := ⟨w.heap.size + 1, 0, none⟩) (by simp)]; simp [go_sem]
         have b31 : w3.cell? ⟨w.heap.size + 1, 1, none⟩ = some (.int .i64 b.o) := by rw [K3.out.cell (p := ⟨w.heap.size + 1, 1, none⟩) (by simp)]; simp [go_sem]
         clear hu3 hb3)
      | (go_at_call 12
         refine (HG.out w1 v xs a (HV.out.below (HW0.out.trans (K1.out.mono (by simp; omega)))) HF.out HA1.out).mono ?_
         rw [HGA.out]
         rintro e w2 ⟨u2, rfl, hu2, hb2⟩
         have B2 := Lib.hid hu2
         have K2 := Lib.hid (K1.out.trans (hb2.mono K1.out.size))
         have b20 : w2.cell? ⟨w.heap.size + 1, 0, none⟩ = some (.int .i64 b.a) := by rw [K2.out.cell (p := ⟨w.heap.size + 1, 0, none⟩) (by simp)]; simp [go_sem]
         have b21 : w2.cell? ⟨w.heap.size + 1, 1, none⟩ = some (.int .i64 b.o) := by rw [K2.out.cell (p := ⟨w.heap.size + 1, 1, none⟩) (by simp)]; simp [go_sem]
         clear hu2 hb2)
      | (go_at_call 10
         refine HAL.out.mono ?_
         rintro e w1 ⟨rfl, hb1⟩
         have K1 := Lib.hid hb1
         have a10 : w1.cell? ⟨w.heap.size, 0, none⟩ = some (.int .i64 a.a) := by rw [K1.out.cell (p := ⟨w.heap.size, 0, none⟩) (by simp; omega)]; simp [go_sem]
         have a11 : w1.cell? ⟨w.heap.size, 1, none⟩ = some (.int .i64 a.o) := by rw [K1.out.cell (p := ⟨w.heap.size, 1, none⟩) (by simp; omega)]; simp [go_sem]
         clear hb1))
    go_ret
    exact ⟨by first | rfl | simp, HW0.out.trans (K5.out.mono (by simp; omega))⟩
theorem buddyOrder_walk {w : World} (A : Option Addr) (n c : Nat) (xs : List Blk) (hz : Rw fB 2 w w.heap.size A n xs) (hwf : ∀ x ∈ xs, x.fits) (hcap : n ≤ c) (hmax : c ≤ maxLen) (big : c ≤ 8796093021952) (a : Blk) (ha : a.fits) (b : Blk) (hb : b.fits) :
    Calls Try.prog 5 #[.slice A n c, .agg #[.int .i64 a.a, .int .i64 a.o], .agg #[.int .i64 b.a, .int .i64 b.o]] w fun e w' => e = .returned (.bool true) ∧ Below w.heap.size w w' :=
  order_v ⟨A, n, c, rfl, hz, by omega⟩ hwf a b ha hb
end Go.Proofs.Ytnbhchfpfbbngaa
