/- SwapTells: its walk. -/
import Derived.Test.YtfhcjainhpjdfaaSwd
import Derived.Test.YtfhcjainhpjdfaaSwe
namespace Go.Proofs.Ytfhcjainhpjdfaa
open Go.ChangeShapes Go.WideShapes Go.ChangeAt Go.RowKit Go.Joins Go.Sort
set_option linter.unusedVariables false
attribute [local go_sem] Oper.quiet Oper.quietAt Oper.quietUpon

set_option maxHeartbeats 4000000 in
set_option maxRecDepth 100000 in
theorem swapTells_dead {w : World} (A : Option Addr) (n c : Nat) (xs : List Slv) (ss : List Slo) (hz : Rw fS 3 w w.heap.size A n xs) (hs : Sls w w.heap.size xs ss) (hnc : n ≤ c) (hbig : c ≤ 2513169434843)
    (bA : Option Addr) (bn bc : Nat) (bs : List Int) (hb : Row .u8 w w.heap.size bA bn bs) (tA : Option Addr) (tn tc : Nat) (ts : List Int) (ht : Row .i64 w w.heap.size tA tn ts) (refs k : Int) (E1 : Int) (R1 R2 : List Slo) (hR1 : R1.length ≤ n) (hR2 : R2.length ≤ n) (HSH : Hid (∀ W, Rw fS 3 W W.heap.size A n xs → Sls W W.heap.size xs ss → Calls Try.prog 27 #[.slice A n c, .int .i64 k] W (TRefS E1 R1 W))) (HL1 : Hid (∀ W, Rw fS 3 W W.heap.size A n xs → Sls W W.heap.size xs ss → Calls Try.prog 28 #[.slice A n c, .int .i64 k, .int .i64 1] W (TRefS E1 R1 W))) (HD : Hid (∀ W, Rw fS 3 W W.heap.size A n xs → Sls W W.heap.size xs ss → Calls Try.prog 25 #[.slice A n c, .int .i64 k] W (TRefS 3 R2 W))) (HL2 : Hid (∀ W, Rw fS 3 W W.heap.size A n xs → Sls W W.heap.size xs ss → Calls Try.prog 28 #[.slice A n c, .int .i64 k, .int .i64 (-1)] W (TRefS 3 R2 W)))
    (HG : Hid (∀ W, Rw fS 3 W W.heap.size A n xs → Sls W W.heap.size xs ss → Calls Try.prog 22 #[.slice A n c, .int .i64 k] W (TGet [] [] 3 W))) :
    Calls Try.prog 8 #[.slice A n c, .slice bA bn bc, .slice tA tn tc, .int .i64 refs, .int .i64 k] w fun e w' => e = .returned (.bool true) ∧ Below w.heap.size w w' := by
  have HZ := Lib.hid hz
  have HS := Lib.hid hs
  have HBr := Lib.hid hb
  have HTr := Lib.hid ht
  have hsn : ss.length = n := by rw [← hs.1, hz.1]
  have HP := Lib.hid (fun W hz hs hb ht => put_any A n c xs ss bA bn bc bs tA tn tc ts refs W hz hs hb ht (by omega))
  have HL := Lib.hid (fun W hz hs hb ht => lput_any A n c xs ss bA bn bc bs tA tn tc ts refs W hz hs hb ht hnc (by omega))
  have HPL : Hid ((putS ss bs ts refs).length ≤ 2513169434915) := Lib.hid (by unfold putS; split <;> simp <;> omega)
  have HPL1 : Hid (R1.length ≤ 2513169434915) := Lib.hid (by have := hR1; omega)
  have HPL2 : Hid (R2.length ≤ 2513169434915) := Lib.hid (by have := hR2; omega)
  generalize putE ss bs ts refs = pE at *
  generalize putN ss bs ts refs = pN at *
  generalize putS ss bs ts refs = pS at *
  clear hz hs hb ht hR1 hR2 hsn
  go_enter Try.func8, Try.ntmps8
  go_wp2_with fail
  refine (HP.out w HZ.out HS.out HBr.out HTr.out).mono ?_
  rintro e w1 ⟨A1, n1, c1, _, rfl, ys1, hr, hs, hb⟩
  have HR1 := Lib.hid hr
  have HS1 := Lib.hid hs
  have HW1 := Lib.hid (hb)
  have hn1 : n1 ≤ 2513169434915 := by rw [← hr.1, hs.1]; exact HPL.out
  clear hr hs hb
  go_wp2_with fail
  refine (HL.out w1 (HZ.out.on HW1.out (Nat.le_refl _)) (HS.out.on HW1.out (Nat.le_refl _)) (HBr.out.on HW1.out (Nat.le_refl _)) (HTr.out.on HW1.out (Nat.le_refl _))).mono ?_
  rintro e w2 ⟨A2, n2, c2, _, rfl, ys2, hr, hs, hb⟩
  have HR2 := Lib.hid hr
  have HS2 := Lib.hid hs
  have HW2 := Lib.hid (HW1.out.trans (hb.mono HW1.out.size))
  have HR1 := Lib.hid (HR1.out.on hb (Nat.le_refl _))
  have HS1 := Lib.hid (HS1.out.on hb (Nat.le_refl _))
  clear hr hs hb
  go_wp2_with fail
  refine (HSH.out w2 (HZ.out.on HW2.out (Nat.le_refl _)) (HS.out.on HW2.out (Nat.le_refl _))).mono ?_
  rintro e w3 ⟨A3, n3, c3, rfl, ys3, hr, hs, hb⟩
  have HR3 := Lib.hid hr
  have HS3 := Lib.hid hs
  have HW3 := Lib.hid (HW2.out.trans (hb.mono HW2.out.size))
  have hn3 : n3 ≤ 2513169434915 := by rw [← hr.1, hs.1]; exact HPL1.out
  have HR1 := Lib.hid (HR1.out.on hb (Nat.le_refl _))
  have HS1 := Lib.hid (HS1.out.on hb (Nat.le_refl _))
  have HR2 := Lib.hid (HR2.out.on hb (Nat.le_refl _))
  have HS2 := Lib.hid (HS2.out.on hb (Nat.le_refl _))
  clear hr hs hb
  go_wp2_with fail
  refine (HL1.out w3 (HZ.out.on HW3.out (Nat.le_refl _)) (HS.out.on HW3.out (Nat.le_refl _))).mono ?_
  rintro e w4 ⟨A4, n4, c4, rfl, ys4, hr, hs, hb⟩
  have HR4 := Lib.hid hr
  have HS4 := Lib.hid hs
  have HW4 := Lib.hid (HW3.out.trans (hb.mono HW3.out.size))
  have HR1 := Lib.hid (HR1.out.on hb (Nat.le_refl _))
  have HS1 := Lib.hid (HS1.out.on hb (Nat.le_refl _))
  have HR2 := Lib.hid (HR2.out.on hb (Nat.le_refl _))
  have HS2 := Lib.hid (HS2.out.on hb (Nat.le_refl _))
  have HR3 := Lib.hid (HR3.out.on hb (Nat.le_refl _))
  have HS3 := Lib.hid (HS3.out.on hb (Nat.le_refl _))
  clear hr hs hb
  go_wp2_with fail
  refine (HD.out w4 (HZ.out.on HW4.out (Nat.le_refl _)) (HS.out.on HW4.out (Nat.le_refl _))).mono ?_
  rintro e w5 ⟨A5, n5, c5, rfl, ys5, hr, hs, hb⟩
  have HR5 := Lib.hid hr
  have HS5 := Lib.hid hs
  have HW5 := Lib.hid (HW4.out.trans (hb.mono HW4.out.size))
  have hn5 : n5 ≤ 2513169434915 := by rw [← hr.1, hs.1]; exact HPL2.out
  have HR1 := Lib.hid (HR1.out.on hb (Nat.le_refl _))
  have HS1 := Lib.hid (HS1.out.on hb (Nat.le_refl _))
  have HR2 := Lib.hid (HR2.out.on hb (Nat.le_refl _))
  have HS2 := Lib.hid (HS2.out.on hb (Nat.le_refl _))
  have HR3 := Lib.hid (HR3.out.on hb (Nat.le_refl _))
  have HS3 := Lib.hid (HS3.out.on hb (Nat.le_refl _))
  have HR4 := Lib.hid (HR4.out.on hb (Nat.le_refl _))
  have HS4 := Lib.hid (HS4.out.on hb (Nat.le_refl _))
  clear hr hs hb
  go_wp2_with fail
  refine (HL2.out w5 (HZ.out.on HW5.out (Nat.le_refl _)) (HS.out.on HW5.out (Nat.le_refl _))).mono ?_
  rintro e w6 ⟨A6, n6, c6, rfl, ys6, hr, hs, hb⟩
  have HR6 := Lib.hid hr
  have HS6 := Lib.hid hs
  have HW6 := Lib.hid (HW5.out.trans (hb.mono HW5.out.size))
  have HR1 := Lib.hid (HR1.out.on hb (Nat.le_refl _))
  have HS1 := Lib.hid (HS1.out.on hb (Nat.le_refl _))
  have HR2 := Lib.hid (HR2.out.on hb (Nat.le_refl _))
  have HS2 := Lib.hid (HS2.out.on hb (Nat.le_refl _))
  have HR3 := Lib.hid (HR3.out.on hb (Nat.le_refl _))
  have HS3 := Lib.hid (HS3.out.on hb (Nat.le_refl _))
  have HR4 := Lib.hid (HR4.out.on hb (Nat.le_refl _))
  have HS4 := Lib.hid (HS4.out.on hb (Nat.le_refl _))
  have HR5 := Lib.hid (HR5.out.on hb (Nat.le_refl _))
  have HS5 := Lib.hid (HS5.out.on hb (Nat.le_refl _))
  clear hr hs hb
  go_wp2_with fail
  refine wp_region_rel1 [Sp.call 11 (.bool true), Sp.call 22 (.bool true), Sp.call 33 (.bool true), Sp.sls 37 64 (List.replicate 64 zSl), Sp.sls 38 64 (List.replicate 64 zSl), Sp.call 39 (.bool true)] (by kernel_rfl) (by kernel_rfl) ?_
  intro V hV
  have e11 : V 11 = .bool true := hV 11
  have e22 : V 22 = .bool true := hV 22
  have e33 : V 33 = .bool true := hV 33
  obtain ⟨A37, c37, e37⟩ : ∃ A c, V 37 = .slice A 64 c := hV 37
  obtain ⟨A38, c38, e38⟩ : ∃ A c, V 38 = .slice A 64 c := hV 38
  have e39 : V 39 = .bool true := hV 39
  repeat (refine rel_quiet rfl rfl ?_; go_big_quiet_step (fail); refine wpQuiet_nil ?_)
  refine rel_special (Sp.call 11 (.bool true)) (by kernel_rfl) rfl (fun w' hb hf => ?_) ?_
  · refine becomes_call (f := 24) (args := #[.slice A1 n1 c1, .slice A2 n2 c2]) ?_ ((same_yes A1 A2 n1 c1 n2 c2 ys1 ys2 pS w' w'.heap.size (HR1.out.on hb (Nat.le_refl _)) (HR2.out.on hb (Nat.le_refl _)) (HS1.out.on hb (Nat.le_refl _)) (HS2.out.on hb (Nat.le_refl _)) (Nat.le_refl _) (by omega)).mono ?_)
    · go_simp
    · rintro e w'' ⟨rfl, hb'⟩
      exact ⟨_, rfl, hb', rfl, trivial⟩
  go_big_quiet_step (fail)
  refine wpQuiet_nil ?_
  simp only [e11]
  repeat (refine rel_quiet rfl rfl ?_; go_big_quiet_step (fail); refine wpQuiet_nil ?_)
  refine rel_special (Sp.call 22 (.bool true)) (by kernel_rfl) rfl (fun w' hb hf => ?_) ?_
  · refine becomes_call (f := 24) (args := #[.slice A3 n3 c3, .slice A4 n4 c4]) ?_ ((same_yes A3 A4 n3 c3 n4 c4 ys3 ys4 R1 w' w'.heap.size (HR3.out.on hb (Nat.le_refl _)) (HR4.out.on hb (Nat.le_refl _)) (HS3.out.on hb (Nat.le_refl _)) (HS4.out.on hb (Nat.le_refl _)) (Nat.le_refl _) (by omega)).mono ?_)
    · go_simp
    · rintro e w'' ⟨rfl, hb'⟩
      exact ⟨_, rfl, hb', rfl, trivial⟩
  go_big_quiet_step (fail)
  refine wpQuiet_nil ?_
  simp only [e22]
  repeat (refine rel_quiet rfl rfl ?_; go_big_quiet_step (fail); refine wpQuiet_nil ?_)
  refine rel_special (Sp.call 33 (.bool true)) (by kernel_rfl) rfl (fun w' hb hf => ?_) ?_
  · refine becomes_call (f := 24) (args := #[.slice A5 n5 c5, .slice A6 n6 c6]) ?_ ((same_yes A5 A6 n5 c5 n6 c6 ys5 ys6 R2 w' w'.heap.size (HR5.out.on hb (Nat.le_refl _)) (HR6.out.on hb (Nat.le_refl _)) (HS5.out.on hb (Nat.le_refl _)) (HS6.out.on hb (Nat.le_refl _)) (Nat.le_refl _) (by omega)).mono ?_)
    · go_simp
    · rintro e w'' ⟨rfl, hb'⟩
      exact ⟨_, rfl, hb', rfl, trivial⟩
  go_big_quiet_step (fail)
  refine wpQuiet_nil ?_
  simp only [e33]
  repeat (refine rel_quiet rfl rfl ?_; go_big_quiet_step (fail); refine wpQuiet_nil ?_)
  refine rel_special (Sp.sls 37 64 (List.replicate 64 zSl)) (by kernel_rfl) rfl (fun w' hb hf => ?_) ?_
  · refine becomes_call (f := 29) (args := #[]) ?_ ((snew_any w').mono ?_)
    · go_simp
    · rintro e w'' ⟨rfl, rfl⟩
      exact ⟨_, rfl, (Below.refl _ _).alloc (Nat.le_refl _) _, ⟨_, _, rfl⟩, _, _, _, rfl, (zS_row w').any (by simp), zS_sls _ _⟩
  go_big_quiet_step (fail)
  refine wpQuiet_nil ?_
  refine rel_special (Sp.sls 38 64 (List.replicate 64 zSl)) (by kernel_rfl) rfl (fun w' hb hf => ?_) ?_
  · have hm := make_S w'
    refine becomes_value (v := .slice (some ⟨w'.heap.size, 0, none⟩) 64 64) (w' := w'.alloc (.cells zcellsS 52)) ?_ ((Below.refl _ _).alloc (Nat.le_refl _) _) ⟨⟨_, _, rfl⟩, _, _, _, rfl, (zS_row w').any (by simp), zS_sls _ _⟩
    generalize zcellsS = Z at *
    go_simp
  go_big_quiet_step (fail)
  refine wpQuiet_nil ?_
  refine rel_special (Sp.call 39 (.bool true)) (by kernel_rfl) rfl (fun w' hb hf => ?_) ?_
  · obtain ⟨A, c, xs8, e, hr8, hs8⟩ : ∃ A c xs, V 38 = .slice A 64 c ∧ Rw fS 3 w' w'.heap.size A 64 xs ∧ Sls w' w'.heap.size xs (List.replicate 64 zSl) := hf _ (List.Mem.head _) (by kernel_rfl)
    rw [e38] at e
    cases e
    obtain ⟨A, c, xs7, e, hr7, hs7⟩ : ∃ A c xs, V 37 = .slice A 64 c ∧ Rw fS 3 w' w'.heap.size A 64 xs ∧ Sls w' w'.heap.size xs (List.replicate 64 zSl) := hf _ (List.Mem.tail _ (List.Mem.head _)) (by kernel_rfl)
    rw [e37] at e
    cases e
    refine becomes_call (f := 24) (args := #[.slice A37 64 c37, .slice A38 64 c38]) ?_ ((same_yes A37 A38 64 c37 64 c38 xs7 xs8 (List.replicate 64 zSl) w' w'.heap.size hr7 hr8 hs7 hs8 (Nat.le_refl _) (by omega)).mono ?_)
    · go_simp
    · rintro e w'' ⟨rfl, hb'⟩
      exact ⟨_, rfl, hb', rfl, trivial⟩
  go_big_quiet_step (fail)
  refine wpQuiet_nil ?_
  simp only [e39]
  repeat (refine rel_quiet rfl rfl ?_; go_big_quiet_step (fail); refine wpQuiet_nil ?_)
  intro w7 hb7 hf
  have HW7 := Lib.hid (HW6.out.trans (hb7.mono HW6.out.size))
  clear hf hb7 hV HR1 HR2 HR3 HR4 HR5 HR6 HS1 HS2 HS3 HS4 HS5 HS6
  go_wp2_with fail
  refine (HG.out w7 (HZ.out.on HW7.out (Nat.le_refl _)) (HS.out.on HW7.out (Nat.le_refl _))).mono ?_
  rintro e w8 ⟨A8, n8, c8, A9, n9, c9, rfl, hr8, hr9, hb8⟩
  have hn8 : n8 = 0 := by rw [← hr8.1]; rfl
  have hn9 : n9 = 0 := by rw [← hr9.1]; rfl
  subst hn8 hn9
  clear hr8 hr9
  go_wp2
  go_ret
  exact ⟨rfl, HW7.out.trans (hb8.mono HW7.out.size)⟩

set_option maxHeartbeats 4000000 in
set_option maxRecDepth 100000 in
theorem swapTells_live {w : World} (A : Option Addr) (n c : Nat) (xs : List Slv) (ss : List Slo) (hz : Rw fS 3 w w.heap.size A n xs) (hs : Sls w w.heap.size xs ss) (hnc : n ≤ c) (hbig : c ≤ 2513169434843)
    (bA : Option Addr) (bn bc : Nat) (bs : List Int) (hb : Row .u8 w w.heap.size bA bn bs) (tA : Option Addr) (tn tc : Nat) (ts : List Int) (ht : Row .i64 w w.heap.size tA tn ts) (refs k : Int) (E1 : Int) (R1 R2 : List Slo) (hR1 : R1.length ≤ n) (hR2 : R2.length ≤ n) (HSH : Hid (∀ W, Rw fS 3 W W.heap.size A n xs → Sls W W.heap.size xs ss → Calls Try.prog 27 #[.slice A n c, .int .i64 k] W (TRefS E1 R1 W))) (HL1 : Hid (∀ W, Rw fS 3 W W.heap.size A n xs → Sls W W.heap.size xs ss → Calls Try.prog 28 #[.slice A n c, .int .i64 k, .int .i64 1] W (TRefS E1 R1 W))) (HD : Hid (∀ W, Rw fS 3 W W.heap.size A n xs → Sls W W.heap.size xs ss → Calls Try.prog 25 #[.slice A n c, .int .i64 k] W (TRefS 0 R2 W))) (HL2 : Hid (∀ W, Rw fS 3 W W.heap.size A n xs → Sls W W.heap.size xs ss → Calls Try.prog 28 #[.slice A n c, .int .i64 k, .int .i64 (-1)] W (TRefS 0 R2 W)))
    (s : Slo) (hl : liveAt ss k s) (HG : Hid (∀ W, Rw fS 3 W W.heap.size A n xs → Sls W W.heap.size xs ss → Calls Try.prog 22 #[.slice A n c, .int .i64 k] W (TGet s.b s.t 0 W))) :
    Calls Try.prog 8 #[.slice A n c, .slice bA bn bc, .slice tA tn tc, .int .i64 refs, .int .i64 k] w fun e w' => e = .returned (.bool true) ∧ Below w.heap.size w w' := by
  have HZ := Lib.hid hz
  have HS := Lib.hid hs
  have HBr := Lib.hid hb
  have HTr := Lib.hid ht
  have hsn : ss.length = n := by rw [← hs.1, hz.1]
  have HP := Lib.hid (fun W hz hs hb ht => put_any A n c xs ss bA bn bc bs tA tn tc ts refs W hz hs hb ht (by omega))
  have HL := Lib.hid (fun W hz hs hb ht => lput_any A n c xs ss bA bn bc bs tA tn tc ts refs W hz hs hb ht hnc (by omega))
  have HPL : Hid ((putS ss bs ts refs).length ≤ 2513169434915) := Lib.hid (by unfold putS; split <;> simp <;> omega)
  have HPL1 : Hid (R1.length ≤ 2513169434915) := Lib.hid (by have := hR1; omega)
  have HPL2 : Hid (R2.length ≤ 2513169434915) := Lib.hid (by have := hR2; omega)
  generalize putE ss bs ts refs = pE at *
  generalize putN ss bs ts refs = pN at *
  generalize putS ss bs ts refs = pS at *
  obtain ⟨h0, h1, h2⟩ := hl
  obtain ⟨i, rfl⟩ := Int.eq_ofNat_of_zero_le h0
  rw [Int.toNat_natCast] at h1
  have hi : i < n := by have := (List.getElem?_eq_some_iff.1 h1).1; rw [← hsn]; exact this
  obtain ⟨b, off, rfl, hbl⟩ := hz.open (by omega)
  obtain ⟨x, s', hx, hs', hr⟩ := hs.get (i := i) (by rw [hz.1]; exact hi)
  rw [h1] at hs'; cases hs'
  have hin : (i : Int) < (n : Int) := by omega
  have HX := Lib.hid hr
  have HXI := Lib.hid hx
  clear hz hs hb ht hR1 hR2 hsn h1 h2 hx hr h0
  go_enter Try.func8, Try.ntmps8
  go_wp2_with fail
  refine (HP.out w HZ.out HS.out HBr.out HTr.out).mono ?_
  rintro e w1 ⟨A1, n1, c1, _, rfl, ys1, hr, hs, hb⟩
  have HR1 := Lib.hid hr
  have HS1 := Lib.hid hs
  have HW1 := Lib.hid (hb)
  have hn1 : n1 ≤ 2513169434915 := by rw [← hr.1, hs.1]; exact HPL.out
  clear hr hs hb
  go_wp2_with fail
  refine (HL.out w1 (HZ.out.on HW1.out (Nat.le_refl _)) (HS.out.on HW1.out (Nat.le_refl _)) (HBr.out.on HW1.out (Nat.le_refl _)) (HTr.out.on HW1.out (Nat.le_refl _))).mono ?_
  rintro e w2 ⟨A2, n2, c2, _, rfl, ys2, hr, hs, hb⟩
  have HR2 := Lib.hid hr
  have HS2 := Lib.hid hs
  have HW2 := Lib.hid (HW1.out.trans (hb.mono HW1.out.size))
  have HR1 := Lib.hid (HR1.out.on hb (Nat.le_refl _))
  have HS1 := Lib.hid (HS1.out.on hb (Nat.le_refl _))
  clear hr hs hb
  go_wp2_with fail
  refine (HSH.out w2 (HZ.out.on HW2.out (Nat.le_refl _)) (HS.out.on HW2.out (Nat.le_refl _))).mono ?_
  rintro e w3 ⟨A3, n3, c3, rfl, ys3, hr, hs, hb⟩
  have HR3 := Lib.hid hr
  have HS3 := Lib.hid hs
  have HW3 := Lib.hid (HW2.out.trans (hb.mono HW2.out.size))
  have hn3 : n3 ≤ 2513169434915 := by rw [← hr.1, hs.1]; exact HPL1.out
  have HR1 := Lib.hid (HR1.out.on hb (Nat.le_refl _))
  have HS1 := Lib.hid (HS1.out.on hb (Nat.le_refl _))
  have HR2 := Lib.hid (HR2.out.on hb (Nat.le_refl _))
  have HS2 := Lib.hid (HS2.out.on hb (Nat.le_refl _))
  clear hr hs hb
  go_wp2_with fail
  refine (HL1.out w3 (HZ.out.on HW3.out (Nat.le_refl _)) (HS.out.on HW3.out (Nat.le_refl _))).mono ?_
  rintro e w4 ⟨A4, n4, c4, rfl, ys4, hr, hs, hb⟩
  have HR4 := Lib.hid hr
  have HS4 := Lib.hid hs
  have HW4 := Lib.hid (HW3.out.trans (hb.mono HW3.out.size))
  have HR1 := Lib.hid (HR1.out.on hb (Nat.le_refl _))
  have HS1 := Lib.hid (HS1.out.on hb (Nat.le_refl _))
  have HR2 := Lib.hid (HR2.out.on hb (Nat.le_refl _))
  have HS2 := Lib.hid (HS2.out.on hb (Nat.le_refl _))
  have HR3 := Lib.hid (HR3.out.on hb (Nat.le_refl _))
  have HS3 := Lib.hid (HS3.out.on hb (Nat.le_refl _))
  clear hr hs hb
  go_wp2_with fail
  refine (HD.out w4 (HZ.out.on HW4.out (Nat.le_refl _)) (HS.out.on HW4.out (Nat.le_refl _))).mono ?_
  rintro e w5 ⟨A5, n5, c5, rfl, ys5, hr, hs, hb⟩
  have HR5 := Lib.hid hr
  have HS5 := Lib.hid hs
  have HW5 := Lib.hid (HW4.out.trans (hb.mono HW4.out.size))
  have hn5 : n5 ≤ 2513169434915 := by rw [← hr.1, hs.1]; exact HPL2.out
  have HR1 := Lib.hid (HR1.out.on hb (Nat.le_refl _))
  have HS1 := Lib.hid (HS1.out.on hb (Nat.le_refl _))
  have HR2 := Lib.hid (HR2.out.on hb (Nat.le_refl _))
  have HS2 := Lib.hid (HS2.out.on hb (Nat.le_refl _))
  have HR3 := Lib.hid (HR3.out.on hb (Nat.le_refl _))
  have HS3 := Lib.hid (HS3.out.on hb (Nat.le_refl _))
  have HR4 := Lib.hid (HR4.out.on hb (Nat.le_refl _))
  have HS4 := Lib.hid (HS4.out.on hb (Nat.le_refl _))
  clear hr hs hb
  go_wp2_with fail
  refine (HL2.out w5 (HZ.out.on HW5.out (Nat.le_refl _)) (HS.out.on HW5.out (Nat.le_refl _))).mono ?_
  rintro e w6 ⟨A6, n6, c6, rfl, ys6, hr, hs, hb⟩
  have HR6 := Lib.hid hr
  have HS6 := Lib.hid hs
  have HW6 := Lib.hid (HW5.out.trans (hb.mono HW5.out.size))
  have HR1 := Lib.hid (HR1.out.on hb (Nat.le_refl _))
  have HS1 := Lib.hid (HS1.out.on hb (Nat.le_refl _))
  have HR2 := Lib.hid (HR2.out.on hb (Nat.le_refl _))
  have HS2 := Lib.hid (HS2.out.on hb (Nat.le_refl _))
  have HR3 := Lib.hid (HR3.out.on hb (Nat.le_refl _))
  have HS3 := Lib.hid (HS3.out.on hb (Nat.le_refl _))
  have HR4 := Lib.hid (HR4.out.on hb (Nat.le_refl _))
  have HS4 := Lib.hid (HS4.out.on hb (Nat.le_refl _))
  have HR5 := Lib.hid (HR5.out.on hb (Nat.le_refl _))
  have HS5 := Lib.hid (HS5.out.on hb (Nat.le_refl _))
  clear hr hs hb
  go_wp2_with fail
  refine wp_region_rel1 [Sp.call 11 (.bool true), Sp.call 22 (.bool true), Sp.call 33 (.bool true), Sp.sls 37 64 (List.replicate 64 zSl), Sp.sls 38 64 (List.replicate 64 zSl), Sp.call 39 (.bool true)] (by kernel_rfl) (by kernel_rfl) ?_
  intro V hV
  have e11 : V 11 = .bool true := hV 11
  have e22 : V 22 = .bool true := hV 22
  have e33 : V 33 = .bool true := hV 33
  obtain ⟨A37, c37, e37⟩ : ∃ A c, V 37 = .slice A 64 c := hV 37
  obtain ⟨A38, c38, e38⟩ : ∃ A c, V 38 = .slice A 64 c := hV 38
  have e39 : V 39 = .bool true := hV 39
  repeat (refine rel_quiet rfl rfl ?_; go_big_quiet_step (fail); refine wpQuiet_nil ?_)
  refine rel_special (Sp.call 11 (.bool true)) (by kernel_rfl) rfl (fun w' hb hf => ?_) ?_
  · refine becomes_call (f := 24) (args := #[.slice A1 n1 c1, .slice A2 n2 c2]) ?_ ((same_yes A1 A2 n1 c1 n2 c2 ys1 ys2 pS w' w'.heap.size (HR1.out.on hb (Nat.le_refl _)) (HR2.out.on hb (Nat.le_refl _)) (HS1.out.on hb (Nat.le_refl _)) (HS2.out.on hb (Nat.le_refl _)) (Nat.le_refl _) (by omega)).mono ?_)
    · go_simp
    · rintro e w'' ⟨rfl, hb'⟩
      exact ⟨_, rfl, hb', rfl, trivial⟩
  go_big_quiet_step (fail)
  refine wpQuiet_nil ?_
  simp only [e11]
  repeat (refine rel_quiet rfl rfl ?_; go_big_quiet_step (fail); refine wpQuiet_nil ?_)
  refine rel_special (Sp.call 22 (.bool true)) (by kernel_rfl) rfl (fun w' hb hf => ?_) ?_
  · refine becomes_call (f := 24) (args := #[.slice A3 n3 c3, .slice A4 n4 c4]) ?_ ((same_yes A3 A4 n3 c3 n4 c4 ys3 ys4 R1 w' w'.heap.size (HR3.out.on hb (Nat.le_refl _)) (HR4.out.on hb (Nat.le_refl _)) (HS3.out.on hb (Nat.le_refl _)) (HS4.out.on hb (Nat.le_refl _)) (Nat.le_refl _) (by omega)).mono ?_)
    · go_simp
    · rintro e w'' ⟨rfl, hb'⟩
      exact ⟨_, rfl, hb', rfl, trivial⟩
  go_big_quiet_step (fail)
  refine wpQuiet_nil ?_
  simp only [e22]
  repeat (refine rel_quiet rfl rfl ?_; go_big_quiet_step (fail); refine wpQuiet_nil ?_)
  refine rel_special (Sp.call 33 (.bool true)) (by kernel_rfl) rfl (fun w' hb hf => ?_) ?_
  · refine becomes_call (f := 24) (args := #[.slice A5 n5 c5, .slice A6 n6 c6]) ?_ ((same_yes A5 A6 n5 c5 n6 c6 ys5 ys6 R2 w' w'.heap.size (HR5.out.on hb (Nat.le_refl _)) (HR6.out.on hb (Nat.le_refl _)) (HS5.out.on hb (Nat.le_refl _)) (HS6.out.on hb (Nat.le_refl _)) (Nat.le_refl _) (by omega)).mono ?_)
    · go_simp
    · rintro e w'' ⟨rfl, hb'⟩
      exact ⟨_, rfl, hb', rfl, trivial⟩
  go_big_quiet_step (fail)
  refine wpQuiet_nil ?_
  simp only [e33]
  repeat (refine rel_quiet rfl rfl ?_; go_big_quiet_step (fail); refine wpQuiet_nil ?_)
  refine rel_special (Sp.sls 37 64 (List.replicate 64 zSl)) (by kernel_rfl) rfl (fun w' hb hf => ?_) ?_
  · refine becomes_call (f := 29) (args := #[]) ?_ ((snew_any w').mono ?_)
    · go_simp
    · rintro e w'' ⟨rfl, rfl⟩
      exact ⟨_, rfl, (Below.refl _ _).alloc (Nat.le_refl _) _, ⟨_, _, rfl⟩, _, _, _, rfl, (zS_row w').any (by simp), zS_sls _ _⟩
  go_big_quiet_step (fail)
  refine wpQuiet_nil ?_
  refine rel_special (Sp.sls 38 64 (List.replicate 64 zSl)) (by kernel_rfl) rfl (fun w' hb hf => ?_) ?_
  · have hm := make_S w'
    refine becomes_value (v := .slice (some ⟨w'.heap.size, 0, none⟩) 64 64) (w' := w'.alloc (.cells zcellsS 52)) ?_ ((Below.refl _ _).alloc (Nat.le_refl _) _) ⟨⟨_, _, rfl⟩, _, _, _, rfl, (zS_row w').any (by simp), zS_sls _ _⟩
    generalize zcellsS = Z at *
    go_simp
  go_big_quiet_step (fail)
  refine wpQuiet_nil ?_
  refine rel_special (Sp.call 39 (.bool true)) (by kernel_rfl) rfl (fun w' hb hf => ?_) ?_
  · obtain ⟨A, c, xs8, e, hr8, hs8⟩ : ∃ A c xs, V 38 = .slice A 64 c ∧ Rw fS 3 w' w'.heap.size A 64 xs ∧ Sls w' w'.heap.size xs (List.replicate 64 zSl) := hf _ (List.Mem.head _) (by kernel_rfl)
    rw [e38] at e
    cases e
    obtain ⟨A, c, xs7, e, hr7, hs7⟩ : ∃ A c xs, V 37 = .slice A 64 c ∧ Rw fS 3 w' w'.heap.size A 64 xs ∧ Sls w' w'.heap.size xs (List.replicate 64 zSl) := hf _ (List.Mem.tail _ (List.Mem.head _)) (by kernel_rfl)
    rw [e37] at e
    cases e
    refine becomes_call (f := 24) (args := #[.slice A37 64 c37, .slice A38 64 c38]) ?_ ((same_yes A37 A38 64 c37 64 c38 xs7 xs8 (List.replicate 64 zSl) w' w'.heap.size hr7 hr8 hs7 hs8 (Nat.le_refl _) (by omega)).mono ?_)
    · go_simp
    · rintro e w'' ⟨rfl, hb'⟩
      exact ⟨_, rfl, hb', rfl, trivial⟩
  go_big_quiet_step (fail)
  refine wpQuiet_nil ?_
  simp only [e39]
  repeat (refine rel_quiet rfl rfl ?_; go_big_quiet_step (fail); refine wpQuiet_nil ?_)
  intro w7 hb7 hf
  have HW7 := Lib.hid (HW6.out.trans (hb7.mono HW6.out.size))
  clear hf hb7 hV HR1 HR2 HR3 HR4 HR5 HR6 HS1 HS2 HS3 HS4 HS5 HS6
  go_wp2_with fail
  refine (HG.out w7 (HZ.out.on HW7.out (Nat.le_refl _)) (HS.out.on HW7.out (Nat.le_refl _))).mono ?_
  rintro e w8 ⟨A8, n8, c8, A9, n9, c9, rfl, hr8, hr9, hb8⟩
  have HW8 := Lib.hid (HW7.out.trans (hb8.mono HW7.out.size))
  have hrx := HX.out.on HW8.out (Nat.le_refl _)
  have q1 := fun (d : Nat) (os : Array Obj) => conv_row (c := c8) (hr8.below (below_regrown w8 d os))
  have q2 := fun (d : Nat) (os : Array Obj) => conv_row (c := x.bc) (hrx.b.below (below_regrown w8 d os))
  generalize strOfNums s.b = str at *
  have HR8 := Lib.hid hr8
  have HR9 := Lib.hid hr9
  have HRX := Lib.hid hrx
  have hrz := HZ.out.on HW8.out (Nat.le_refl _)
  have d1 : w8.cell? ⟨b, off + i * 3 + 1, none⟩ = some (.slice x.bA x.bn x.bc) := hrz.at_ fS_len HXI.out 1 _ rfl
  have d2 : w8.cell? ⟨b, off + i * 3 + 2, none⟩ = some (.slice x.tA x.tn x.tc) := hrz.at_ fS_len HXI.out 2 _ rfl
  have hb8l : b < w8.heap.size := lt_of_cell d1
  have hn9 : x.tn = n9 := by rw [← hrx.t.1, hr9.1]
  have hn99 := HRX.out.tn
  clear hr8 hr9 hrx hb8 hrz
  have HEQ := Lib.hid (fun W (hb : Below w8.heap.size w8 W) => equalI_same A9 x.tA n9 c9 x.tc s.t W W.heap.size (HR9.out.on hb (Nat.le_refl _)) (by rw [← hn9]; exact HRX.out.t.on hb (Nat.le_refl _)) (by omega))
  have HN9 := Lib.hid hn9
  clear hn9
  have gc : ∀ (e : Nat) (os : Array Obj) (b o : Nat), b < w8.heap.size → (grow (redrawn w8 e) os).cell? ⟨b, o, none⟩ = w8.cell? ⟨b, o, none⟩ := fun e os b o h => (below_regrown _ e os).cell (p := ⟨b, o, none⟩) h
  go_wp2_with fail
  refine wp_region_rel1 [Sp.call 20 (.bool true)] (by kernel_rfl) (by kernel_rfl) ?_
  intro V hV
  have e20 : V 20 = .bool true := hV 20
  repeat (refine rel_quiet rfl rfl ?_; go_big_quiet_step (fail); refine wpQuiet_nil ?_)
  refine rel_special (Sp.call 20 (.bool true)) (by kernel_rfl) rfl (fun w' hb hf => ?_) ?_
  · refine becomes_call (f := 23) (args := #[.slice A9 n9 c9, .slice x.tA x.tn x.tc]) ?_ (?_)
    · go_simp
    · rw [HN9.out]
      refine (HEQ.out w' hb).mono ?_
      rintro e w'' ⟨rfl, hb'⟩
      exact ⟨_, rfl, hb', rfl, trivial⟩
  go_big_quiet_step (fail)
  refine wpQuiet_nil ?_
  simp only [e20]
  repeat (refine rel_quiet rfl rfl ?_; go_big_quiet_step (fail); refine wpQuiet_nil ?_)
  intro w9 hb9 hf
  clear hf gc q1 q2 d1 d2
  go_wp2
  go_ret
  exact ⟨rfl, HW8.out.trans (hb9.mono HW8.out.size)⟩

theorem swapTells_walk {w : World} (A : Option Addr) (n c : Nat) (xs : List Slv) (hz : Rw fS 3 w w.heap.size A n xs) (hs : ∃ ss, Sls w w.heap.size xs ss) (hnc : n ≤ c) (_ : c ≤ maxLen) (hbig : c ≤ 2513169434843)
    (bA : Option Addr) (bn bc : Nat) (bs : List Int) (hb : Row .u8 w w.heap.size bA bn bs) (_ : ∀ z ∈ bs, (Lit.int .u8 z).wf = true) (_ : bn ≤ bc) (_ : bc ≤ maxLen) (hbb : bc ≤ 140737488351232)
    (tA : Option Addr) (tn tc : Nat) (ts : List Int) (ht : Row .i64 w w.heap.size tA tn ts) (_ : ∀ z ∈ ts, (Lit.int .i64 z).wf = true) (_ : tn ≤ tc) (_ : tc ≤ maxLen) (htb : tc ≤ 17592186043904) (refs : Int) (_ : I64 refs) (k : Int) (_ : I64 k) :
    Calls Try.prog 8 #[.slice A n c, .slice bA bn bc, .slice tA tn tc, .int .i64 refs, .int .i64 k] w fun e w' => e = .returned (.bool true) ∧ Below w.heap.size w w' := by
  obtain ⟨ss, hs⟩ := hs
  have hsn : ss.length = n := by rw [← hs.1, hz.1]
  rcases live_or_dead ss k with ⟨s, hl⟩ | hd
  · have HD := Lib.hid (fun W hz hs => sdrop_any A n c xs ss k W hz hs (by omega) 0 _ (.inr ⟨s, hl, rfl, rfl⟩))
    have HL2 := Lib.hid (fun W hz hs => lrefs_down A n c xs ss W hz hs (by omega) k s hl)
    have HG := Lib.hid (fun W hz hs => get_yes A n c xs ss k W hz hs s hl)
    by_cases h3 : 3 < s.r
    · exact swapTells_live A n c xs ss hz hs hnc hbig bA bn bc bs hb tA tn tc ts ht refs k 4 [] _ (by simp) (by simp; omega)
        (Lib.hid (fun W hz hs => share_any A n c xs ss k W hz hs (by omega) 4 [] (.inr ⟨s, hl, .inl ⟨h3, rfl, rfl⟩⟩))) (Lib.hid (fun W hz hs => lrefs_full A n c xs ss W _ _ hz hs k s hl h3)) HD HL2 s hl HG
    · exact swapTells_live A n c xs ss hz hs hnc hbig bA bn bc bs hb tA tn tc ts ht refs k 0 _ _ (by simp; omega) (by simp; omega)
        (Lib.hid (fun W hz hs => share_any A n c xs ss k W hz hs (by omega) 0 _ (.inr ⟨s, hl, .inr ⟨by omega, rfl, rfl⟩⟩))) (Lib.hid (fun W hz hs => lrefs_up A n c xs ss W hz hs (by omega) k s hl (by omega))) HD HL2 s hl HG
  · exact swapTells_dead A n c xs ss hz hs hnc hbig bA bn bc bs hb tA tn tc ts ht refs k 3 [] [] (by simp) (by simp)
      (Lib.hid (fun W hz hs => share_any A n c xs ss k W hz hs (by omega) 3 [] (.inl ⟨hd, rfl, rfl⟩))) (Lib.hid (fun W hz hs => lrefs_dead A n c xs ss W _ _ hz hs k 1 hd)) (Lib.hid (fun W hz hs => sdrop_any A n c xs ss k W hz hs (by omega) 3 [] (.inl ⟨hd, rfl, rfl⟩))) (Lib.hid (fun W hz hs => lrefs_dead A n c xs ss W _ _ hz hs k (-1) hd)) (Lib.hid (fun W hz hs => get_no A n c xs ss k W hz hs hd))
end Go.Proofs.Ytfhcjainhpjdfaa
