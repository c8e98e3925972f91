/- alive11; ClockSpares: its walk. -/
import Derived.Test.YtidfngplhjegpaaClkT
namespace Go.Proofs.Ytidfngplhjegpaa
open Go.RowKit Go.Sort
set_option linter.unusedVariables false

theorem rw_blk {w : World} {g : Nat} {cur : Array Value} {T : TypeId} {xs : List Bool} {n : Nat} (hh : w.heap[g]? = some (.cells cur T (0, 0))) (hn : xs.length = n) (hm : n ≤ 1000) (hx : ∀ (i : Nat) (x : Bool), xs[i]? = some x → cur[i]? = some (Value.bool x)) : Rw fB 1 w w.heap.size (some ⟨g, 0, none⟩) n xs :=
  ⟨hn, by unfold maxLen; omega, fun _ => ⟨g, 0, rfl, blk_lt hh, fun i x hi j v hv => by
    have hj : j = 0 := by have := (List.getElem?_eq_some_iff.1 hv).1; simpa [fB] using this
    subst hj
    simp [fB] at hv
    rw [blk_cell hh, ← hv]
    simpa using hx i x hi⟩⟩
theorem b3 {a b c : Bool} (i : Nat) (x : Bool) (h : [a, b, c][i]? = some x) : (#[Value.bool a, .bool b, .bool c] : Array Value)[i]? = some (.bool x) := by
  match i, h with
  | 0, h => simp at h; subst h; rfl
  | 1, h => simp at h; subst h; rfl
  | 2, h => simp at h; subst h; rfl
  | i + 3, h => simp at h

set_option maxHeartbeats 1000000 in
theorem alive11_any (w : World) : Calls Try.prog 33 #[] w fun e w' => e = .returned (.bool true) ∧ Below w.heap.size w w' := by
  have l1 : nextE 2 [true, false, true] [false, false, true] = 0 := by decide
  have l2 : nextV 2 [true, false, true] [false, false, true] = 0 := by decide
  have l3 : nextH 2 [true, false, true] [false, false, true] = 1 := by decide
  have l4 : nextU 2 [true, false, true] [false, false, true] = [false, false, false] := by decide
  go_enter Try.func33, Try.ntmps33
  go_wp2_with fail
  have hs1 : Rw fB 1 ((w.alloc (.cells #[.bool true, .bool false, .bool true] 4)).alloc (.cells #[.bool false, .bool false, .bool true] 4)) (w.heap.size + 1 + 1) (some ⟨w.heap.size, 0, none⟩) 3 [true, false, true] :=
    (rw_blk (w := (w.alloc (.cells #[.bool true, .bool false, .bool true] 4)).alloc (.cells #[.bool false, .bool false, .bool true] 4)) (cur := #[.bool true, .bool false, .bool true]) (T := 4) (n := 3) (by rw [heap_alloc_old _ _ (by simp)]; exact heap_alloc_new _ _) rfl (by omega) b3).any (by simp)
  have hs2 : Rw fB 1 ((w.alloc (.cells #[.bool true, .bool false, .bool true] 4)).alloc (.cells #[.bool false, .bool false, .bool true] 4)) (w.heap.size + 1 + 1) (some ⟨w.heap.size + 1, 0, none⟩) 3 [false, false, true] :=
    (rw_blk (w := (w.alloc (.cells #[.bool true, .bool false, .bool true] 4)).alloc (.cells #[.bool false, .bool false, .bool true] 4)) (cur := #[.bool false, .bool false, .bool true]) (T := 4) (n := 3) (by have := heap_alloc_new (w.alloc (.cells #[.bool true, .bool false, .bool true] 4)) (.cells #[.bool false, .bool false, .bool true] 4); simpa using this) rfl (by omega) b3).any (by simp)
  refine (next_any _ _ 3 3 3 3 [true, false, true] [false, false, true] 2 _ (w.heap.size + 1 + 1) hs1 hs2 (by simp) (by omega) (by omega)).mono ?_
  rintro e w1 ⟨A1, n1, c1, rfl, ho1, hb1⟩
  rw [l4] at ho1
  rw [l1, l2, l3]
  clear l1 l2 l3 l4
  have hz1 := hb1.size
  have hn1 : n1 = 3 := ho1.1.symm
  subst hn1
  have HX := Lib.hid ho1.row
  clear ho1
  go_wp2_with fail
  have hr1 : Rw fB 1 (w1.alloc (.cells #[.bool false, .bool false, .bool false] 4)) (w1.heap.size + 1) A1 3 [false, false, false] := (HX.out.below ((Below.refl _ _).alloc (Nat.le_refl _) _)).any (by omega)
  have hr2 : Rw fB 1 (w1.alloc (.cells #[.bool false, .bool false, .bool false] 4)) (w1.heap.size + 1) (some ⟨w1.heap.size, 0, none⟩) 3 [false, false, false] := (rw_blk (n := 3) (heap_alloc_new _ _) rfl (by omega) b3).any (by simp)
  refine (equalB_same _ _ 3 c1 3 [false, false, false] _ _ hr1 hr2 (by omega)).mono ?_
  rintro e w2 ⟨rfl, hb2⟩
  go_wp2
  go_ret
  refine ⟨rfl, ?_⟩
  simp only [World.size_alloc] at hb1 hb2 hz1
  exact (((Below.refl _ _).alloc (Nat.le_refl _) _).alloc (by simp) _).trans ((hb1.mono (by omega)).trans (((Below.refl _ _).alloc (by omega) _).trans (hb2.mono (by omega))))

set_option maxHeartbeats 2000000 in
theorem clockSpares_0 {w : World} (hand : Int) (A1 : Option Addr) (n1 c1 : Nat) (may : List Bool) (hm : Rw fB 1 w w.heap.size A1 n1 may) (b1 : n1 ≤ 140737488355328) (A2 : Option Addr) (n2 c2 : Nat) (used : List Bool) (hu : Rw fB 1 w w.heap.size A2 n2 used) (b2 : n2 ≤ 140737488355328) (hE : Hid (nextE hand may used = 1 ∨ nextE hand may used = 2 ∨ nextE hand may used = 3)) :
    Calls Try.prog 12 #[.int .i64 hand, .slice A1 n1 c1, .slice A2 n2 c2] w fun e w' => e = .returned (.bool true) ∧ Below w.heap.size w w' := by
  have HM := Lib.hid hm
  have HU := Lib.hid hu
  clear hm hu
  go_enter Try.func12, Try.ntmps12
  go_wp2_with fail
  refine (alive11_any _).mono ?_
  rintro e w1 ⟨rfl, hb1⟩
  have hz1 := hb1.size
  go_wp2_with fail
  refine (next_any A1 A2 n1 c1 n2 c2 may used hand _ _ (HM.out.on hb1 (Nat.le_refl _)) (HU.out.on hb1 (Nat.le_refl _)) (Nat.le_refl _) b1 b2).mono ?_
  rintro e w2 ⟨B1, m1, d1, rfl, ho1, hb2⟩
  have hU : nextU hand may used = [] := by unfold nextU; rw [if_neg (by have := hE.out; omega)]
  rw [hU] at ho1
  have hm1 : m1 = 0 := ho1.1.symm
  subst hm1
  clear ho1 hU
  rcases hE.out with h | h | h
  all_goals
    rw [h]
    clear h
    go_wp2
    go_ret
    exact ⟨rfl, hb1.trans (hb2.mono hz1)⟩

set_option maxHeartbeats 8000000 in
theorem clockSpares_1 {w : World} (h : Nat) (A1 : Option Addr) (n c1 : Nat) (may : List Bool) (hm : Rw fB 1 w w.heap.size A1 n may) (b1 : n ≤ 140737488355328) (A2 : Option Addr) (c2 : Nat) (used : List Bool) (hu : Rw fB 1 w w.heap.size A2 n used) (hh : h < n) (hf : firstT may < n) :
    Calls Try.prog 12 #[.int .i64 h, .slice A1 n c1, .slice A2 n c2] w fun e w' => e = .returned (.bool true) ∧ Below w.heap.size w w' := by
  have hml := hm.1
  have hul := hu.1
  have hE : nextE h may used = 0 := nextE_0.2 ⟨by omega, by omega, by omega, by omega⟩
  have hV : nextV h may used = (victim may used h n : Nat) := by unfold nextV; rw [if_pos hE, Int.toNat_natCast, hml]
  have hU : nextU h may used = outF may used h n := by unfold nextU; rw [if_pos hE, Int.toNat_natCast, hml]
  have hMay : kMay may h n < n := kMay_lt hh hml (by omega)
  have hvl := victim_lt (may := may) (used := used) hh
  obtain ⟨hv1, hv2⟩ := step_yes (may := may) (used := used) hh hMay
  have hall := Lib.hid (fun hv (j : Nat) hj hmj => all_used (may := may) (used := used) hh hv (j := j) hj hmj)
  have hle := Lib.hid (fun (j : Nat) => outK_le (may := may) (used := used) (h := h) (n := n) (j := j) (kTot may used h n))
  have hnot := Lib.hid (fun (j : Nat) hmj => outK_not (may := may) (used := used) (h := h) (n := n) (j := j) hmj (kTot may used h n))
  have hol : (outF may used h n).length = n := by unfold outF; rw [outK_len]; exact hul
  obtain ⟨bm, om, rfl, hbm⟩ := rwB_open hm (by omega)
  obtain ⟨bu, ou, rfl, hbu⟩ := rwB_open hu (by omega)
  have HM := Lib.hid hm
  have HU := Lib.hid hu
  have HE := Lib.hid hE
  have HV := Lib.hid hV
  have HUU := Lib.hid hU
  have HOL := Lib.hid hol
  have HV1 := Lib.hid hv1
  have HV2 := Lib.hid hv2
  clear hm hu hml hul hE hV hU hol hv1 hv2 hMay hf
  go_enter Try.func12, Try.ntmps12
  go_wp2_with fail
  refine (alive11_any _).mono ?_
  rintro e w1 ⟨rfl, hb1⟩
  have hz1 := hb1.size
  go_wp2_with fail
  refine (next_any _ _ n c1 n c2 may used h _ _ (HM.out.on hb1 (Nat.le_refl _)) (HU.out.on hb1 (Nat.le_refl _)) (Nat.le_refl _) b1 b1).mono ?_
  rintro e w2 ⟨B1, m1, d1, rfl, ho1, hb2⟩
  have hz2 := hb2.size
  rw [HUU.out] at ho1
  rw [HV.out, HE.out]
  have hm1 : m1 = n := by rw [← ho1.1, HOL.out]
  subst hm1
  have HO := Lib.hid ho1.row
  clear ho1
  obtain ⟨bo, oo, rfl, hbo⟩ := rwB_open HO.out (by omega)
  have HM2 := Lib.hid ((HM.out.on hb1 (Nat.le_refl _)).on hb2 (Nat.le_refl _))
  have HU2 := Lib.hid ((HU.out.on hb1 (Nat.le_refl _)).on hb2 (Nat.le_refl _))
  generalize hvv : victim may used h m1 = v at *
  have HVV := Lib.hid hvv
  clear hvv
  have x1 : w2.cell? ⟨bm, om + v, none⟩ = some (.bool (mb may v)) := rwB_at HM2.out hvl
  have x2 : w2.cell? ⟨bo, oo + v, none⟩ = some (.bool (mb (outF may used h m1) v)) := rwB_at HO.out hvl
  have x3 : w2.cell? ⟨bu, ou + v, none⟩ = some (.bool (mb used v)) := rwB_at HU2.out hvl
  rw [HV1.out] at x1
  rw [HV2.out] at x2
  have dd1 : decide (m1 ≤ v) = false := by simp; omega
  have dd2 : decide ((v : Int) < 0) = false := by simp
  go_wp2
  clear x1 x2
  go_loopw [58] (fun i wr => ∃ k : Nat, k ≤ m1 ∧ i = .int .i64 k ∧ Below w2.heap.size w2 wr ∧ (∀ p : Addr, wr.cell? p = w2.cell? p)) (fun i _ => m1 - (intOf i).toNat)
  case atStart => exact ⟨0, by omega, rfl, Below.refl _ _, fun _ => rfl⟩
  case round =>
    obtain ⟨k, hk, rfl, hbw, hcell⟩ := hrel
    have HC := Lib.hid hcell
    by_cases hlt : k < m1
    · have y1 : wr.cell? ⟨bm, om + k, none⟩ = some (.bool (mb may k)) := (hcell _).trans (rwB_at HM2.out hlt)
      have y2 : wr.cell? ⟨bo, oo + k, none⟩ = some (.bool (mb (outF may used h m1) k)) := (hcell _).trans (rwB_at HO.out hlt)
      have y3 : wr.cell? ⟨bu, ou + k, none⟩ = some (.bool (mb used k)) := (hcell _).trans (rwB_at HU2.out hlt)
      have y4 : wr.cell? ⟨bu, ou + v, none⟩ = some (.bool (mb used v)) := (hcell _).trans x3
      have f1 : mb used v = true → mb may k = true → mb used k = true := fun h1 h2 => hall.out h1 k hlt h2
      have f2 : mb (outF may used h m1) k = true → mb used k = true := hle.out k
      have f3 : mb may k = false → mb (outF may used h m1) k = mb used k := hnot.out k
      clear hcell x3
      have hk0 : (0 : Int) ≤ (k : Int) := by omega
      have hkn : (k : Int) < (m1 : Int) := by omega
      have hv0 : (0 : Int) ≤ (v : Int) := by omega
      have hvn : (v : Int) < (m1 : Int) := by omega
      generalize mb may k = q1 at *
      generalize mb (outF may used h m1) k = q2 at *
      generalize mb used k = q3 at *
      generalize mb used v = q4 at *
      cases q1 <;> cases q2 <;> cases q3 <;> cases q4 <;> first | exact absurd (f1 rfl rfl) Bool.false_ne_true | exact absurd (f2 rfl) Bool.false_ne_true | exact absurd (f3 rfl) (by decide) | skip
      all_goals
        clear f1 f2 f3
        go_wp2
        go_quiet (fail)
        go_wp2
        go_roundw
        case rel => exact ⟨k + 1, by omega, by go_num, hbw.trans (below_drewN _ _ _), fun p => HC.out p⟩
        case measure => simp [intOf]; omega
    · clear hcell
      go_wp2
      go_ret
      exact ⟨rfl, hb1.trans ((hb2.trans (hbw.mono hz2)).mono hz1)⟩

theorem clockSpares_walk {w : World} (hand : Int) (_ : I64 hand) (A1 : Option Addr) (n1 c1 : Nat) (may : List Bool) (hm : Rw fB 1 w w.heap.size A1 n1 may) (l1 : n1 ≤ c1) (_ : c1 ≤ maxLen) (b1 : c1 ≤ 140737488351232) (A2 : Option Addr) (n2 c2 : Nat) (used : List Bool) (hu : Rw fB 1 w w.heap.size A2 n2 used) (l2 : n2 ≤ c2) (_ : c2 ≤ maxLen) (b2 : c2 ≤ 140737488351232) :
    Calls Try.prog 12 #[.int .i64 hand, .slice A1 n1 c1, .slice A2 n2 c2] w fun e w' => e = .returned (.bool true) ∧ Below w.heap.size w w' := by
  by_cases hE : nextE hand may used = 0
  · obtain ⟨e1, e2, e3, e4⟩ := nextE_0.1 hE
    obtain ⟨h, rfl⟩ := Int.eq_ofNat_of_zero_le e2
    have h1 := hm.1
    have h2 := hu.1
    obtain rfl : n1 = n2 := by omega
    exact clockSpares_1 h A1 n1 c1 may hm (by omega) A2 c2 used hu (by omega) (by omega)
  · refine clockSpares_0 hand A1 n1 c1 may hm (by omega) A2 n2 c2 used hu (by omega) (Lib.hid ?_)
    unfold nextE at *
    split
    · exact .inl rfl
    · split
      · exact .inr (.inl rfl)
      · split
        · rename_i h1 h2 h3; exact absurd (by rw [if_neg h1, if_neg h2, if_pos h3]) hE
        · exact .inr (.inr rfl)
end Go.Proofs.Ytidfngplhjegpaa
