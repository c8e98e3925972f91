/- BuddyBack and BuddyOrder: their walks. -/
import Derived.Test.YtnbhchfpfbbngaaBdk
namespace Go.Proofs.Ytnbhchfpfbbngaa
open Go.ChangeShapes Go.WideShapes Go.ChangeAt Go.RowKit Go.Joins Go.Sort
set_option linter.unusedVariables false
theorem Calls.rg {f : FuncId} {args : Array Value} {w : World} {v : Value} (h : ∀ W, Below w.heap.size w W → Calls Try.prog f args W fun e w' => e = .returned v ∧ Below W.heap.size W w') (d : Nat) (os : Array Obj) : Calls Try.prog f args (grow (redrawn w d) os) fun e w'' => e = .returned v ∧ ∃ p : Regrown, w'' = grow (redrawn w p.d) p.os :=
  Calls.regrown_of (h _ (below_regrown w d os))
theorem take_rng {xs : List Blk} {ord : Int} (h : (takeS xs ord).2.2 = 0) : 0 ≤ ord ∧ ord ≤ 6 := by
  obtain ⟨_, h1, h2, _⟩ := take_ok h
  exact ⟨h1, h2⟩
set_option maxHeartbeats 4000000 in
set_option maxRecDepth 100000 in
theorem back_v {w : World} {v : Value} {xs : List Blk} (h : Bv w v xs) (hf : ∀ x ∈ xs, x.fits) (ord : Int) (ho : I64 ord) :
    Calls Try.prog 3 #[v, .int .i64 ord] w fun e w' => e = .returned (.bool true) ∧ Below w.heap.size w w' := by
  have HV := Lib.hid h
  have HAL := Lib.hid (alive2_any w)
  have HTK := Lib.hid (fun w1 (hb : Below w.heap.size w w1) => take_v (h.below hb) hf ord ho)
  have HL0 : Hid ((takeS xs ord).2.2 ≠ 0 → (takeS xs ord).1 = []) := Lib.hid take_bad
  by_cases h0 : (takeS xs ord).2.2 = 0
  · obtain ⟨r1, r2, r3, r4, r5⟩ := take_all h0
    have HGV := Lib.hid (fun (w2 : World) (u : Value) (hu : Bv w2 u (takeS xs ord).1) => (by
      have := give_v hu (rp_fits r2) ⟨(takeS xs ord).2.1, ord⟩ (okB_fits r3)
      rw [back_give h0] at this; exact this : Calls Try.prog 12 #[u, .agg #[.int .i64 (takeS xs ord).2.1, .int .i64 ord]] w2 fun e w' => ∃ u', e = .returned (.tuple #[u', .int .i64 0]) ∧ Bv w' u' xs ∧ Below w2.heap.size w2 w'))
    have HEQ := Lib.hid (fun (W : World) (u : Value) (h1 : Bv W u xs) (h2 : Bv W v xs) => (by
      have := equal_v h1 h2
      rw [eqL_refl] at this; exact this : Calls Try.prog 13 #[u, v] W fun e w' => e = .returned (.bool true) ∧ Below W.heap.size W w'))
    have HRT := Lib.hid (fun (W : World) (u : Value) (h1 : Bv W u (takeS xs ord).1) => (by
      have := right_v h1 (rp_fits r2)
      rw [right_iff.2 r2] at this; exact this : Calls Try.prog 14 #[u] W fun e w' => e = .returned (.bool true) ∧ Below W.heap.size W w'))
    have HF1 := Lib.hid (fun (W : World) (u : Value) (h1 : Bv W u (takeS xs ord).1) => frames_v h1 r2.1 (rp_len r2))
    have HF2 := Lib.hid (fun (W : World) (h1 : Bv W v xs) => frames_v h1 r1.1 (rp_len r1))
    have hsum := back_sum h0
    obtain ⟨o1, o2⟩ := take_rng h0
    have hsh := shl_one o1 o2
    obtain ⟨s1, s2⟩ := szO_le o1 o2
    have HSE : Hid (szO ord = 2 ^ ord.toNat) := Lib.hid rfl
    have hn1 := sumO_nonneg xs
    have hn2 := sumO_nonneg (takeS xs ord).1
    have hn3 : sumO xs ≤ 64 * 64 := by
      have := sumO_le r1.1 64
      rw [List.take_of_length_le (rp_len r1)] at this
      omega
    rw [h0] at HTK
    clear h HL0 h0 r1 r2 r3 r4 r5 hf ho
    obtain ⟨m, hm⟩ : ∃ m, m = (takeS xs ord).1 := ⟨_, rfl⟩
    obtain ⟨a, ha⟩ : ∃ a, a = (takeS xs ord).2.1 := ⟨_, rfl⟩
    rw [← hm] at hsum hn2 HTK HGV HRT HF1
    rw [← ha] at HTK HGV
    clear hm ha
    generalize sumO m = sm at *
    generalize sumO xs = sx at *
    generalize szO ord = s at *
    subst hsum
    go_enter Try.func3, Try.ntmps3
    go_wp2_with (first
      | (go_at_call 12
         refine (HGV.out w2 u2 B2.out).mono ?_
         rintro e w3 ⟨u3, rfl, hu3, hb3⟩
         have B3 := Lib.hid hu3
         have B23 := Lib.hid (B2.out.below hb3)
         have KB3 := Lib.hid (KB2.out.trans (hb3.mono KB2.out.size))
         clear hu3 hb3)
      | (go_at_call 11
         refine (HTK.out w1 KB1.out).mono ?_
         rintro e w2 ⟨u2, rfl, hu2, hb2⟩
         have B2 := Lib.hid hu2
         have KB2 := Lib.hid (KB1.out.trans (hb2.mono KB1.out.size))
         clear hu2 hb2)
      | (go_at_call 10
         refine HAL.out.mono ?_
         rintro e w1 ⟨rfl, hb1⟩
         have KB1 := Lib.hid hb1
         clear hb1))
    have C1 := Calls.rg (fun W hb => HEQ.out W u3 (B3.out.below hb) ((HV.out.below KB3.out).below hb))
    have C2 := Calls.rg (fun W hb => HRT.out W u2 (B23.out.below hb))
    have C3 := Calls.rg (fun W hb => HF1.out W u2 (B23.out.below hb))
    have C4 := Calls.rg (fun W hb => HF2.out W ((HV.out.below KB3.out).below hb))
    refine wp_region_quiet_below (by kernel_rfl) (by kernel_rfl) ?_
    repeat (go_big_quiet_step (first
      | (go_at_call 13; with_reducible exact C1 _ _)
      | (go_at_call 14; with_reducible exact C2 _ _)
      | (go_at_call 15; first | with_reducible exact C3 _ _ | with_reducible exact C4 _ _)))
    refine wpQuiet_nil ?_
    intro w5 hw'
    obtain ⟨p', hw'⟩ := hw'
    have hb5 : Below w3.heap.size w3 w5 := by rw [hw']; exact below_regrown _ _ _
    clear hw' p' C1 C2 C3 C4
    go_wp2
    go_ret
    refine ⟨?_, KB3.out.trans (hb5.mono KB3.out.size)⟩
    simp
    rw [← HSE.out]
    unfold wrap64
    omega
  · have hm := HL0.out h0
    rw [hm] at HTK
    clear h HL0 hf ho hm
    obtain ⟨a, ha⟩ : ∃ a, a = (takeS xs ord).2.1 := ⟨_, rfl⟩
    obtain ⟨er, her⟩ : ∃ er, er = (takeS xs ord).2.2 := ⟨_, rfl⟩
    rw [← ha, ← her] at HTK
    rw [← her] at h0
    clear ha her
    have hne : (er != 0) = true := by rw [bne_iff_ne]; exact h0
    go_enter Try.func3, Try.ntmps3
    go_wp2_with (first
      | (go_at_call 11
         refine (HTK.out w1 KB1.out).mono ?_
         rintro e w2 ⟨u2, rfl, hu2, hb2⟩
         have KB2 := Lib.hid (KB1.out.trans (hb2.mono KB1.out.size))
         obtain ⟨A2, n2, c2, rfl, hr2, _⟩ := hu2
         obtain rfl : n2 = 0 := hr2.1.symm
         clear hr2 hb2)
      | (go_at_call 10
         refine HAL.out.mono ?_
         rintro e w1 ⟨rfl, hb1⟩
         have KB1 := Lib.hid hb1
         clear hb1))
    go_ret
    exact ⟨by first | rfl | simp, KB2.out⟩
theorem buddyBack_walk {w : World} (A : Option Addr) (n c : Nat) (xs : List Blk) (hz : Rw fB 2 w w.heap.size A n xs) (hwf : ∀ x ∈ xs, x.fits) (hcap : n ≤ c) (hmax : c ≤ maxLen) (big : c ≤ 8796093021952) (ord : Int) (ho : I64 ord) :
    Calls Try.prog 3 #[.slice A n c, .int .i64 ord] w fun e w' => e = .returned (.bool true) ∧ Below w.heap.size w w' :=
  back_v ⟨A, n, c, rfl, hz, by omega⟩ hwf ord ho
end Go.Proofs.Ytnbhchfpfbbngaa
