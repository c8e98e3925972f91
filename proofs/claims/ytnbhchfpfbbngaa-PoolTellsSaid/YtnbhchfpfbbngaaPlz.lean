/- The reference: MRight. -/
import Derived.Test.YtnbhchfpfbbngaaPly
namespace Go.Proofs.Ytnbhchfpfbbngaa
open Go.ChangeShapes Go.WideShapes Go.ChangeAt Go.RowKit Go.Joins
set_option linter.unusedVariables false
set_option linter.unusedSimpArgs false
theorem rightB_bf {l : List Blk} (h : rightB l = true) : BfP l := (right_bf.1 h).1
set_option maxHeartbeats 8000000 in
set_option maxRecDepth 100000 in
theorem mright_v {w : World} {cs : Array Value} {p : Pl} (h : PlV w cs p) :
    Calls Try.prog 30 #[.agg cs] w fun e w' => e = .returned (.bool (rightP p)) ∧ Below w.heap.size w w' := by
  have HW0 := Lib.hid ((Below.refl w.heap.size w).alloc (Nat.le_refl _) (.cells cs 42))
  have HBX := Lib.hid (Bx.new w 42 cs)
  have HSZ := Lib.hid h.size
  have HP := Lib.hid h
  obtain ⟨v, hv0, hbv⟩ := h.list
  have hfr := bfree_v (hbv.below HW0.out)
  have HBR := Lib.hid (fun (W : World) (hb : Below w.heap.size w W) => bright_v (hbv.below hb))
  obtain ⟨A, n, c, rfl, _⟩ := hbv
  have HV0 := Lib.hid hv0
  clear h hv0
  unfold GivesF at hfr
  by_cases hbf : BfP p.f
  · have hfr2 : Calls Try.prog 38 #[.slice A n c] (w.alloc (.cells cs 42)) fun e w' => ∃ g, e = .returned (.tuple #[.slice (some ⟨g, 0, none⟩) 64 64, .bool true]) ∧ (w.alloc (.cells cs 42)).heap.size ≤ g ∧ Fr w' g (covB p.f) ∧ Below (w.alloc (.cells cs 42)).heap.size (w.alloc (.cells cs 42)) w' := hfr.mono fun e w' h => by
      rcases h with ⟨_, h⟩ | ⟨h, _⟩
      · exact h
      · exact absurd hbf h
    have hcz : (w.alloc (.cells cs 42)).cell? ⟨w.heap.size, 0, none⟩ = some (.slice A n c) := by rw [HBX.out.cell]; exact HV0.out
    have HALL := Lib.hid (fun h => right_all (p := p) h)
    have HNOT := Lib.hid (fun (n : Nat) (hn : n < 64) => right_not (p := p) hn)
    have HNO := Lib.hid (right_no (p := p))
    have HRO : Hid (∀ n : Nat, refOk p n = (decide (0 ≤ p.r n) && ((p.r n == 0) == covB p.f n))) := Lib.hid (fun n => rfl)
    clear hfr hbf
    obtain ⟨rb, hrb⟩ : ∃ rb, rb = rightB p.f := ⟨_, rfl⟩
    rw [← hrb] at HBR HALL HNO
    clear hrb
    generalize rightP p = res at *
    have hv0 := HV0.out
    cases rb with
    | false =>
      have HRES := Lib.hid (HNO.out rfl)
      clear HALL HNO HNOT hcz
      go_enter Try.func30, Try.ntmps30
      go_wp2_with (first
        | (go_at_call 19
           refine (HBR.out w1 K1.out).mono ?_
           rintro e w2 ⟨rfl, hb2⟩
           have K2 := Lib.hid (K1.out.trans (hb2.mono K1.out.size))
           clear hb2)
        | (go_at_call 38
           refine hfr2.mono ?_
           rintro e w1 ⟨g, rfl, hg, hf1, hb1⟩
           have K1 := Lib.hid (HW0.out.trans (hb1.mono HW0.out.size))
           have X1 := Lib.hid (HBX.out.below hb1)
           have hg1 : w.heap.size < w1.heap.size := X1.out.lt
           have c1 : w1.cell? ⟨w.heap.size, 0, none⟩ = some (.slice A n c) := by rw [X1.out.cell]; exact HV0.out
           clear hb1 hg hf1))
      go_ret
      exact ⟨ret_b HRES.out.symm, K2.out⟩
    | true =>
      have HALL2 := Lib.hid (HALL.out rfl)
      clear HALL HNO hcz
      go_enter Try.func30, Try.ntmps30
      go_wp2_with (first
        | (go_at_call 19
           refine (HBR.out w1 K1.out).mono ?_
           rintro e w2 ⟨rfl, hb2⟩
           have K2 := Lib.hid (K1.out.trans (hb2.mono K1.out.size))
           have X2 := Lib.hid (X1.out.below hb2)
           have F2 := Lib.hid (F1.out.below hb2 F1.out.lt)
           clear hb2 c1)
        | (go_at_call 38
           refine hfr2.mono ?_
           rintro e w1 ⟨g, rfl, hg, hf1, hb1⟩
           have K1 := Lib.hid (HW0.out.trans (hb1.mono HW0.out.size))
           have X1 := Lib.hid (HBX.out.below hb1)
           have hg1 : w.heap.size < w1.heap.size := X1.out.lt
           have c1 : w1.cell? ⟨w.heap.size, 0, none⟩ = some (.slice A n c) := by rw [X1.out.cell]; exact HV0.out
           have F1 := Lib.hid hf1
           clear hb1 hg hf1))
      have hg2 : w.heap.size < w2.heap.size := X2.out.lt
      clear hg1
      go_loop [23] (fun i => ∃ k : Nat, k ≤ 64 ∧ i = .int .i64 k ∧ Hid (∀ m, m < k → refOk p m = true)) (fun i => 64 - (intOf i).toNat)
      case atStart => exact ⟨0, by omega, rfl, Lib.hid (fun m hm => absurd hm (Nat.not_lt_zero _))⟩
      case round =>
        obtain ⟨k, hk, rfl, HOK⟩ := hrel
        by_cases hlt : k < 64
        · have hfc := F2.out.at_ k hlt
          have hrc : w2.cell? ⟨w.heap.size, 1 + k, none⟩ = some (.int .i64 (p.r k)) := by rw [X2.out.cell, Nat.add_comm]; exact HP.out.at_ k hlt
          have hk0 : (0 : Int) ≤ (k : Int) := by omega
          have hk64 : (k : Int) < 64 := by omega
          have HROk := Lib.hid (HRO.out k)
          have HNk := Lib.hid (HNOT.out k hlt)
          have HSTEP := Lib.hid (fun (h : refOk p k = true) => (show ∀ m, m < k + 1 → refOk p m = true from fun m hm => by
            by_cases e : m = k
            · subst e; exact h
            · exact HOK.out m (by omega)))
          obtain ⟨rk, hrk⟩ : ∃ r, r = p.r k := ⟨_, rfl⟩
          obtain ⟨y, hy⟩ : ∃ y, y = covB p.f k := ⟨_, rfl⟩
          rw [← hrk] at hrc HROk
          rw [← hy] at hfc HROk
          clear hrk hy
          by_cases hneg : rk < 0
          · have HR := Lib.hid (HNk.out (by rw [HROk.out, decide_eq_false (by omega)]; rfl))
            have hd : decide (rk < 0) = true := decide_eq_true hneg
            cases y with
            | true =>
              go_wp2
              go_ret
              exact ⟨ret_b HR.out.symm, K2.out⟩
            | false =>
              go_wp2
              go_ret
              exact ⟨ret_b HR.out.symm, K2.out⟩
          · have hd : decide (rk < 0) = false := decide_eq_false hneg
            have HD0 : Hid (decide (0 ≤ rk) = true) := Lib.hid (decide_eq_true (by omega))
            cases y with
            | true =>
              by_cases h0 : rk = 0
              · have HR := Lib.hid (HSTEP.out (by rw [HROk.out, HD0.out, h0]; rfl))
                subst h0
                go_wp2
                go_round
                case rel => exact ⟨k + 1, by omega, by go_num, HR⟩
                case measure => simp [intOf]; omega
              · have hq0 : (rk == 0) = false := by rw [beq_eq_false_iff_ne]; exact h0
                have HR := Lib.hid (HNk.out (by rw [HROk.out, hq0]; simp))
                go_wp2
                go_ret
                exact ⟨ret_b HR.out.symm, K2.out⟩
            | false =>
              by_cases h0 : rk = 0
              · have HR := Lib.hid (HNk.out (by rw [HROk.out, h0]; simp))
                subst h0
                go_wp2
                go_ret
                exact ⟨ret_b HR.out.symm, K2.out⟩
              · have hq0 : (rk == 0) = false := by rw [beq_eq_false_iff_ne]; exact h0
                have HR := Lib.hid (HSTEP.out (by rw [HROk.out, HD0.out, hq0]; rfl))
                go_wp2
                go_round
                case rel => exact ⟨k + 1, by omega, by go_num, HR⟩
                case measure => simp [intOf]; omega
        · have hk64 : k = 64 := by omega
          subst hk64
          have HR := Lib.hid (HALL2.out HOK.out)
          go_wp2
          go_ret
          exact ⟨ret_b HR.out.symm, K2.out⟩
  · have hfr2 : Calls Try.prog 38 #[.slice A n c] (w.alloc (.cells cs 42)) fun e w' => e = .returned (.tuple #[.slice none 0 0, .bool false]) ∧ Below (w.alloc (.cells cs 42)).heap.size (w.alloc (.cells cs 42)) w' := hfr.mono fun e w' h => by
      rcases h with ⟨h, _⟩ | ⟨_, h⟩
      · exact absurd h hbf
      · exact h
    have HRES : Hid (rightP p = false) := Lib.hid (right_no (by rw [← Bool.not_eq_true]; exact fun h => hbf (rightB_bf h)))
    have hv0 := HV0.out
    clear hfr hbf
    generalize rightP p = res at *
    go_enter Try.func30, Try.ntmps30
    go_wp2_with (go_at_call 38; refine hfr2.mono ?_; rintro e w1 ⟨rfl, hb1⟩)
    go_ret
    exact ⟨ret_b HRES.out.symm, HW0.out.trans (hb1.mono HW0.out.size)⟩
end Go.Proofs.Ytnbhchfpfbbngaa
