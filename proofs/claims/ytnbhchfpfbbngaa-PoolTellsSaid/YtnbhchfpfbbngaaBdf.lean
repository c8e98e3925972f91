/- The reference: BBlocks. -/
import Derived.Test.YtnbhchfpfbbngaaBde
namespace Go.Proofs.Ytnbhchfpfbbngaa
open Go.ChangeShapes Go.WideShapes Go.ChangeAt Go.RowKit Go.Joins Go.Sort
set_option linter.unusedVariables false
set_option maxHeartbeats 2000000 in
theorem idxQ_any (g a m c : Nat) (fl : Nat → Bool) (w : World) (h : Fr w g fl) (ha : a + m ≤ 64) (hm : 0 < m) :
    Calls Try.prog 54 #[.slice (some ⟨g, a, none⟩) m c, .bool false] w fun e w' => ∃ r : Int, e = .returned (.int .i64 r) ∧ (decide (0 ≤ r) = !allFr fl a m) ∧ w' = w := by
  have HF := Lib.hid h
  have H1 : Hid ((∀ i, i < m → fl (a + i) = true) → allFr fl a m = true) := Lib.hid allFr_iff.2
  have H2 : Hid (∀ i, i < m → fl (a + i) = false → allFr fl a m = false) := Lib.hid (fun i hi hf => by
    rw [← Bool.not_eq_true, allFr_iff]
    intro h
    rw [h i hi] at hf; cases hf)
  generalize allFr fl a m = res at *
  clear h
  go_enter Try.func54, Try.ntmps54
  go_wp2
  go_loop [5, 8] (fun _ i => ∃ k : Nat, k ≤ m ∧ i = .int .i64 k ∧ Hid (∀ i, i < k → fl (a + i) = true)) (fun _ i => m - (intOf i).toNat)
  case atStart => exact ⟨0, by omega, rfl, Lib.hid (fun i hi => absurd hi (Nat.not_lt_zero _))⟩
  case round =>
    obtain ⟨k, hk, rfl, HA⟩ := hrel
    by_cases hlt : k < m
    · have hc := HF.out.at_ (a + k) (by omega)
      cases hf : fl (a + k) with
      | true =>
        rw [hf] at hc
        have HFF := Lib.hid hf
        clear hf
        go_wp2
        go_round
        case rel => exact ⟨k + 1, by omega, by go_num, Lib.hid (fun i hi => by
          by_cases e : i = k
          · subst e; exact HFF.out
          · exact HA.out i (by omega))⟩
        case measure => simp [intOf]; omega
      | false =>
        rw [hf] at hc
        have HR := Lib.hid (H2.out k hlt hf)
        clear hf
        go_wp2
        go_ret
        exact ⟨_, rfl, by rw [HR.out]; simp, rfl⟩
    · have hkm : k = m := by omega
      subst hkm
      have HR := Lib.hid (H1.out HA.out)
      go_wp2
      go_ret
      exact ⟨_, rfl, by rw [HR.out]; rfl, rfl⟩
set_option maxHeartbeats 2000000 in
theorem conQ_any (g a m c : Nat) (fl : Nat → Bool) (w : World) (h : Fr w g fl) (ha : a + m ≤ 64) (hm : 0 < m) :
    Calls Try.prog 43 #[.slice (some ⟨g, a, none⟩) m c, .bool false] w fun e w' => e = .returned (.bool (!allFr fl a m)) ∧ w' = w := by
  have hc := idxQ_any g a m c fl w h ha hm
  clear h
  generalize (!allFr fl a m) = res at *
  go_enter Try.func43, Try.ntmps43
  go_wp2_with (go_at_call 54; refine hc.mono ?_; rintro e w1 ⟨r, rfl, hr, rfl⟩)
  all_goals
    go_ret
    exact ⟨ret_b (by first | exact hr | rw [← hr] | (rw [← hr]; simp [*])), rfl⟩
def ordI : Option Nat → Int
  | none => -1
  | some o => o
theorem big_yes {fl : Nat → Bool} {a k : Nat} (h : fitO fl a k = true) : bigO fl a (k + 1) = some k := by unfold bigO; rw [if_pos h]
theorem big_no {fl : Nat → Bool} {a k : Nat} (h : fitO fl a k = false) : bigO fl a (k + 1) = bigO fl a k := by
  rw [bigO]; rw [if_neg (by rw [h]; exact Bool.false_ne_true)]
theorem fit_eq (fl : Nat → Bool) (a k : Nat) : fitO fl a k = (decide ((a : Int) % szO k = 0) && allFr fl a (2 ^ k)) := by
  unfold fitO
  congr 1
  rw [szO_nat]
  exact decide_eq_decide.2 (by omega)
theorem blkF_none {fl : Nat → Bool} {f a : Nat} (ha : a < 64) (h : bigO fl a 7 = none) : blkF fl (f + 1) a = blkF fl f (a + 1) := by
  rw [blkF, if_pos ha, h]
theorem blkF_some {fl : Nat → Bool} {f a o : Nat} (ha : a < 64) (h : bigO fl a 7 = some o) : blkF fl (f + 1) a = ⟨a, o⟩ :: blkF fl f (a + 2 ^ o) := by
  rw [blkF, if_pos ha, h]
theorem blkF_end {fl : Nat → Bool} {f a : Nat} (ha : 64 ≤ a) : blkF fl f a = [] := by
  cases f with
  | zero => rfl
  | succ f => rw [blkF, if_neg (by omega)]

set_option maxHeartbeats 8000000 in
set_option maxRecDepth 100000 in
theorem bblocks_any (g : Nat) (fl : Nat → Bool) (w : World) (h : Fr w g fl) :
    Calls Try.prog 39 #[.slice (some ⟨g, 0, none⟩) 64 64] w fun e w' => ∃ v, e = .returned v ∧ Os fB 2 30 w' w.heap.size v (canon fl) ∧ Below w.heap.size w w' := by
  have HF := Lib.hid h
  have HG := Lib.hid h.lt
  have HC : Hid (canon fl = [] ++ blkF fl 64 0) := Lib.hid rfl
  generalize canon fl = res at *
  clear h
  go_enter Try.func39, Try.ntmps39
  go_wp2
  go_loopw [3, 4] (fun v3 v4 wr => ∃ (f a : Nat) (ys : List Blk), Hid (res = ys ++ blkF fl f a) ∧ 64 ≤ a + f ∧ v4 = .int .i64 a ∧ a ≤ 64 ∧ ys.length ≤ a ∧ Hid (Os fB 2 30 wr w.heap.size v3 ys) ∧ Hid (Below w.heap.size w wr)) (fun _ v4 _ => 64 - (intOf v4).toNat)
  case atStart => exact ⟨64, 0, [], HC, by omega, rfl, by omega, by simp, Lib.hid Os.nil, Lib.hid (Below.refl _ _)⟩
  case round =>
    obtain ⟨f, a, ys, HE, hf, rfl, ha, hys, HO, HB⟩ := hrel
    have hsz := HB.out.size
    by_cases hlt : a < 64
    · obtain ⟨f, rfl⟩ : ∃ f', f = f' + 1 := ⟨f - 1, by omega⟩
      have HFr := Lib.hid (HF.out.below HB.out HG.out)
      have HN0 : Hid (bigO fl a 7 = none → blkF fl (f + 1) a = blkF fl f (a + 1)) := Lib.hid (blkF_none hlt)
      have HS0 : Hid (∀ o, bigO fl a 7 = some o → blkF fl (f + 1) a = ⟨a, o⟩ :: blkF fl f (a + 2 ^ o)) := Lib.hid (fun o => blkF_some hlt)
      have ha1 : (a : Int) ≤ 64 := by omega
      have hda : decide ((a : Int) < 64) = true := decide_eq_true (by omega)
      go_wp2
      go_loop [5, 6] (fun v5 i => ∃ k : Nat, k ≤ 7 ∧ i = .int .i64 k ∧ v5 = .int .i64 (ordI (bigO fl a k))) (fun _ i => 7 - (intOf i).toNat)
      case atStart => exact ⟨0, by omega, rfl, rfl⟩
      case round =>
        obtain ⟨k, hk, rfl, rfl⟩ := hrel
        by_cases hkl : k < 7
        · have hsh := shl_one (o := (k : Int)) (by omega) (by omega)
          obtain ⟨s1, s2⟩ := szO_le (o := (k : Int)) (by omega) (by omega)
          have hlit := szO_lit (o := (k : Int)) (by omega) (by omega)
          have HFE := Lib.hid (fit_eq fl a k)
          have HNT := Lib.hid (szO_nat k)
          have HYES : Hid (fitO fl a k = true → ordI (bigO fl a (k + 1)) = k) := Lib.hid (fun h => by rw [big_yes h]; rfl)
          have HNO : Hid (fitO fl a k = false → ordI (bigO fl a (k + 1)) = ordI (bigO fl a k)) := Lib.hid (fun h => by rw [big_no h])
          have HCON := Lib.hid (fun (h1 : a + 2 ^ k ≤ 64) => conQ_any g a (2 ^ k) (64 - a) fl wr HFr.out h1 (Nat.two_pow_pos k))
          generalize ordI (bigO fl a k) = ov at *
          generalize allFr fl a (2 ^ k) = af at *
          obtain ⟨p, hp⟩ : ∃ p, p = 2 ^ k := ⟨_, rfl⟩
          rw [← hp] at HNT HCON
          have HW2 : Hid ((p : Int) = 2 ^ k) := Lib.hid (by rw [hp]; push_cast; rfl)
          obtain ⟨s, hs⟩ : ∃ s, s = szO (k : Int) := ⟨_, rfl⟩
          rw [← hs] at hsh s1 s2 hlit HFE HNT
          clear hs hp
          have hsp := HNT.out
          subst hsp
          have hw64 : wrap64 (2 ^ k) = (p : Int) := by rw [← HW2.out]; unfold wrap64; omega
          have hk6 : (k : Int) ≤ 6 := by omega
          have hk0 : (0 : Int) ≤ (k : Int) := by omega
          by_cases hmod : (a : Int) % (p : Int) = 0
          · have hap : a + p ≤ 64 := by
              rcases hlit with ⟨_, e⟩ | ⟨_, e⟩ | ⟨_, e⟩ | ⟨_, e⟩ | ⟨_, e⟩ | ⟨_, e⟩ | ⟨_, e⟩ <;> rw [e] at hmod <;> omega
            have hcon := HCON.out hap
            have hm1 : ((a : Int) % (p : Int) == 0) = true := by rw [hmod]; rfl
            have hp0 : ¬ (p : Int) = 0 := by omega
            have hap2 : (a : Int) + (p : Int) ≤ 64 := by omega
            have hap3 : (a : Int) ≤ (a : Int) + (p : Int) := by omega
            have hap4 : ((a : Int) + (p : Int)).toNat = a + p := by omega
            have hap5 : a + p - a = p := by omega
            have hap6 : ¬ (64 = a) := by omega
            clear hlit
            cases af with
            | true =>
              have HV := Lib.hid (HYES.out (by rw [HFE.out, hmod]; rfl))
              go_wp2_with (go_at_call 43; refine hcon.mono ?_; rintro e w1 ⟨rfl, rfl⟩)
              go_round
              case rel => exact ⟨k + 1, by omega, by go_num, by rw [HV.out]⟩
              case measure => simp [intOf]; omega
            | false =>
              have HV := Lib.hid (HNO.out (by rw [HFE.out]; simp))
              go_wp2_with (go_at_call 43; refine hcon.mono ?_; rintro e w1 ⟨rfl, rfl⟩)
              go_round
              case rel => exact ⟨k + 1, by omega, by go_num, by rw [HV.out]⟩
              case measure => simp [intOf]; omega
          · have hm1 : ((a : Int) % (p : Int) == 0) = false := by rw [beq_eq_false_iff_ne]; exact hmod
            have hp0 : ¬ (p : Int) = 0 := by omega
            have HV := Lib.hid (HNO.out (by rw [HFE.out, decide_eq_false hmod]; rfl))
            clear hlit
            go_wp2
            go_round
            case rel => exact ⟨k + 1, by omega, by go_num, by rw [HV.out]⟩
            case measure => simp [intOf]; omega
        · have hk7 : k = 7 := by omega
          subst hk7
          obtain ⟨bo, hbo⟩ : ∃ b, b = bigO fl a 7 := ⟨_, rfl⟩
          rw [← hbo] at HN0 HS0
          rw [← hbo]
          have HBO := Lib.hid hbo
          clear hbo
          cases bo with
          | none =>
            have HE2 : Hid (res = ys ++ blkF fl f (a + 1)) := Lib.hid (by rw [HE.out, HN0.out rfl])
            simp only [ordI]
            go_wp2
            go_roundw
            case rel => exact ⟨f, a + 1, ys, HE2, by omega, by go_num, by omega, by omega, HO, HB⟩
            case measure => simp [intOf]; omega
          | some o =>
            have HE2 : Hid (res = (ys ++ [⟨a, o⟩]) ++ blkF fl f (a + 2 ^ o)) := Lib.hid (by rw [HE.out, HS0.out o rfl]; simp)
            obtain ⟨o7, ofit, _⟩ := bigO_some HBO.out.symm
            have hsh := shl_one (o := (o : Int)) (by omega) (by omega)
            have hao : a + 2 ^ o ≤ 64 := pow_dvd64 o7 hlt (by
              simp only [fitO, Bool.and_eq_true, decide_eq_true_eq] at ofit
              exact ofit.1)
            have hop : 0 < 2 ^ o := Nat.two_pow_pos o
            rw [szO_nat] at hsh
            clear ofit
            obtain ⟨p, hp⟩ : ∃ p, p = 2 ^ o := ⟨_, rfl⟩
            have HW2 : Hid ((p : Int) = 2 ^ o) := Lib.hid (by rw [hp]; push_cast; rfl)
            rw [← hp] at hsh hao hop HE2
            clear hp
            have hw64 : wrap64 (2 ^ o) = (p : Int) := by rw [← HW2.out]; unfold wrap64; omega
            simp only [ordI]
            have ho0 : decide ((o : Int) < 0) = false := decide_eq_false (by omega)
            have ho1 : (o : Int) ≤ 6 := by omega
            obtain ⟨A3, c3, rfl, hc31, hc32⟩ := HO.out.form
            go_wp2_with (at_builtin; refine append_one Try.underlying22 info_B rfl (by decide) fB_len fB_one1 rfl _ _ rfl w.heap.size (.slice A3 ys.length c3) ys wr ⟨a, o⟩ wr.heap.size rfl rfl rfl HO.out hsz (by unfold maxLen; omega) (by omega) ?_; intro g' c' w6 ho6 hb6 hbg6 hcc6 hmx6)
            have HO6 := Lib.hid ho6
            have HB6 := Lib.hid (HB.out.trans hb6)
            clear ho6 hb6
            go_roundw
            case rel => exact ⟨f, a + p, _, HE2, by omega, by go_num, by omega, by simp; omega, HO6, HB6⟩
            case measure => simp [intOf]; omega
    · have ha64 : a = 64 := by omega
      subst ha64
      have HE2 : Hid (res = ys) := Lib.hid (by rw [HE.out, blkF_end (Nat.le_refl _), List.append_nil])
      go_wp2
      go_ret
      exact ⟨_, rfl, by rw [HE2.out]; exact HO.out, HB.out⟩
end Go.Proofs.Ytnbhchfpfbbngaa
