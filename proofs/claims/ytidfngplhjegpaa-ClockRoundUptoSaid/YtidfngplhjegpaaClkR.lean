/- ClockRound: plain laws, and its walk. -/
import Derived.Test.YtidfngplhjegpaaClkS
namespace Go.Proofs.Ytidfngplhjegpaa
open Go.RowKit Go.Sort
set_option linter.unusedVariables false

section
variable {may used : List Bool} {h n : Nat}
theorem rk_rk (q k : Nat) : rk (rk h n q) n k = rk h n (q + k) := by unfold rk; rw [Nat.mod_add_mod, Nat.add_assoc]
theorem outK_outK (q : Nat) : ∀ k, outK may (outK may used h n q) (rk h n q) n k = outK may used h n (q + k)
  | 0 => rfl
  | k + 1 => by rw [outK_succ, outK_outK q k, rk_rk, show q + (k + 1) = (q + k) + 1 by omega, outK_succ]
theorem set_same {l : List Bool} {i : Nat} (hi : mb l i = false) : l.set i false = l := by
  apply List.ext_getElem (by simp)
  intro k h1 h2
  rw [List.getElem_set]
  split
  · rename_i e
    subst e
    unfold mb at hi
    simp [List.getD, h2] at hi
    exact hi.symm
  · rfl
/-- Who was taken while so many places were passed. -/
def taken (may used : List Bool) (h n q j : Nat) : Prop := ∃ i, i < q ∧ rk h n i = j ∧ mb may j = true ∧ mb (outK may used h n i) j = false
theorem taken_all (hh : h < n) {q j : Nat} (hq : 2 * n ≤ q) (hj : j < n) : taken may used h n q j ↔ mb may j = true := by
  refine ⟨fun ⟨_, _, _, h1, _⟩ => h1, fun hm => ?_⟩
  obtain ⟨k, hk, rfl⟩ := rk_surj (h := h) hh hj
  exact ⟨k + n, by omega, by rw [show k + n = n + k by omega, rk_add], hm, outK_on hm (k + n) (by omega)⟩
/-- One call more. -/
theorem taken_next {q K : Nat} (hno : ∀ k, k < K → mb may (rk h n (q + k)) = true → mb (outK may used h n (q + k)) (rk h n (q + k)) = true)
    (hy : mb may (rk h n (q + K)) = true) (hy2 : mb (outK may used h n (q + K)) (rk h n (q + K)) = false) (j : Nat) :
    taken may used h n (q + K + 1) j ↔ taken may used h n q j ∨ j = rk h n (q + K) := by
  constructor
  · rintro ⟨i, h1, h2, h3, h4⟩
    by_cases e : i < q
    · exact .inl ⟨i, e, h2, h3, h4⟩
    · by_cases e2 : i = q + K
      · subst e2; exact .inr h2.symm
      · obtain ⟨k, rfl⟩ : ∃ k, i = q + k := ⟨i - q, by omega⟩
        rw [← h2] at h3 h4
        rw [hno k (by omega) h3] at h4; cases h4
  · rintro (⟨i, h1, h2⟩ | rfl)
    · exact ⟨i, by omega, h2⟩
    · exact ⟨q + K, by omega, rfl, hy, hy2⟩
end
theorem round_step {may used : List Bool} {h n : Nat} (hh : h < n) (hml : may.length = n) (hul : used.length = n) (hf : firstT may < n) (q : Nat) :
    ∃ v K : Nat, v < n ∧ nextE (rk h n q : Nat) may (outK may used h n q) = 0 ∧ nextV (rk h n q : Nat) may (outK may used h n q) = (v : Nat) ∧ nextH (rk h n q : Nat) may (outK may used h n q) = (rk h n (q + K + 1) : Nat) ∧
      nextU (rk h n q : Nat) may (outK may used h n q) = outK may used h n (q + K + 1) ∧ ∀ j, taken may used h n (q + K + 1) j ↔ taken may used h n q j ∨ j = v := by
  have hl : rk h n q < n := rk_lt q (by omega)
  have hE : nextE (rk h n q : Nat) may (outK may used h n q) = 0 := nextE_0.2 ⟨by rw [outK_len]; omega, by omega, by omega, by omega⟩
  have hMay : kMay may (rk h n q) n < n := kMay_lt hl hml (by omega)
  obtain ⟨y1, y2⟩ := step_yes (may := may) (used := outK may used h n q) hl hMay
  unfold victim at y1 y2
  unfold outF at y2
  rw [rk_rk] at y1 y2
  rw [outK_outK] at y2
  have hno : ∀ k, k < kTot may (outK may used h n q) (rk h n q) n → mb may (rk h n (q + k)) = true → mb (outK may used h n (q + k)) (rk h n (q + k)) = true := fun k hk hm => by
    have := step_no (may := may) (used := outK may used h n q) hl hMay hk (by rw [rk_rk]; exact hm)
    rwa [rk_rk, outK_outK] at this
  refine ⟨rk h n (q + kTot may (outK may used h n q) (rk h n q) n), kTot may (outK may used h n q) (rk h n q) n, rk_lt _ (by omega), hE, ?_, ?_, ?_, taken_next hno y1 y2⟩
  · unfold nextV; rw [if_pos hE, Int.toNat_natCast, hml]; unfold victim; rw [rk_rk]
  · unfold nextH; rw [if_pos hE, Int.toNat_natCast, hml]; unfold victim; rw [rk_rk, ← rk_succ]
  · unfold nextU; rw [if_pos hE, Int.toNat_natCast, hml]; unfold outF; rw [outK_outK, outK_succ, if_pos y1, set_same y2]
theorem Ow.set_other {α : Type} {f : α → List Value} {sz : Nat} {w : World} {base : Nat} {A : Option Addr} {n c : Nat} {xs : List α} {T : TypeId} (h : Ow f sz T w base A n c xs) {p : Addr} (hp : p.block < base) (u : Value) : Ow f sz T (w.setCell p u) base A n c xs :=
  ⟨h.1, h.2.1, h.2.2.1, fun hn => by
    obtain ⟨g, cur, e, hg, hh, hc⟩ := h.2.2.2 hn
    exact ⟨g, cur, e, hg, by rw [Below.heap_setCell _ _ _ _ (by omega)]; exact hh, hc⟩⟩
theorem make_int (k : Nat) (hk : k ≤ 1048576) (w : World) :
    (Instr.makeSlice 44 (.int .i64 (k : Int)) (.int .i64 (k : Int))).run Try.prog w = .ok (.slice (some ⟨w.heap.size, 0, none⟩) k k) (w.alloc (.cells (madeCells (Value.int .i64 0).cells (k * 1)) 3)) := by
  obtain ⟨i0, hi, hz0, hz1, hz2⟩ := info_parts intInfo
  have hr := run_make (P := Try.prog) w 44 3 i0 (.int .i64 0) Try.underlying44 hi hz0 .i64 .i64 (k : Int) (k : Int) (by omega) (by omega) (by rw [hz2]; omega) (by omega)
  simp only [Int.toNat_natCast, hz1] at hr
  exact hr
def zints (k : Nat) : Array Value := madeCells (Value.int .i64 0).cells (k * 1)
theorem zints_at (k i : Nat) (hi : i < k) : (zints k)[i]? = some (.int .i64 0) := by
  simp [zints, madeCells, Value.cells]
  exact ⟨i, by simp [hi], by simp [Nat.mod_one]⟩
theorem zints_own (k : Nat) (hk : k ≤ 1048576) (w : World) : Ow fN 1 3 (w.alloc (.cells (zints k) 3)) w.heap.size (some ⟨w.heap.size, 0, none⟩) k k (List.replicate k 0) :=
  ⟨by simp, Nat.le_refl _, by unfold maxLen; omega, fun _ => ⟨w.heap.size, zints k, rfl, Nat.le_refl _, heap_alloc_new _ _, fun i x hx j v hv => by
    have hj : j = 0 := by have := (List.getElem?_eq_some_iff.1 hv).1; simpa [fN] using this
    subst hj
    obtain ⟨hi, rfl⟩ := List.getElem?_eq_some_iff.1 hx
    simp [fN] at hv
    have hk : i < k := by simpa using hi
    simp only [Nat.mul_one, Nat.add_zero]
    rw [zints_at _ _ hk, ← hv]⟩⟩

set_option maxHeartbeats 2000000 in
theorem clockRound_0 {w : World} (hand : Int) (A1 : Option Addr) (n1 c1 : Nat) (may : List Bool) (hm : Rw fB 1 w w.heap.size A1 n1 may) (b1 : n1 ≤ 140737488355328) (A2 : Option Addr) (n2 c2 : Nat) (used : List Bool) (hu : Rw fB 1 w w.heap.size A2 n2 used) (b2 : n2 ≤ 140737488355328) (hE : Hid (nextE hand may used = 1 ∨ nextE hand may used = 2 ∨ nextE hand may used = 3)) :
    Calls Try.prog 13 #[.int .i64 hand, .slice A1 n1 c1, .slice A2 n2 c2] w fun e w' => e = .returned (.bool true) ∧ Below w.heap.size w w' := by
  have HM := Lib.hid hm
  have HU := Lib.hid hu
  clear hm hu
  go_enter Try.func13, Try.ntmps13
  go_wp2_with fail
  refine (alive11_any _).mono ?_
  rintro e w1 ⟨rfl, hb1⟩
  have hz1 := hb1.size
  go_wp2_with fail
  refine (next_any A1 A2 n1 c1 n2 c2 may used hand _ _ (HM.out.on hb1 (Nat.le_refl _)) (HU.out.on hb1 (Nat.le_refl _)) (Nat.le_refl _) b1 b2).mono ?_
  rintro e w2 ⟨B1, m1, d1, rfl, ho1, hb2⟩
  clear ho1
  rcases hE.out with h | h | h
  all_goals
    rw [h]
    clear h
    go_wp2
    go_ret
    exact ⟨rfl, hb1.trans (hb2.mono hz1)⟩

set_option maxHeartbeats 8000000 in
theorem clockRound_1 {w : World} (h : Nat) (A1 : Option Addr) (n c1 : Nat) (may : List Bool) (hm : Rw fB 1 w w.heap.size A1 n may) (b1 : n ≤ 1048576) (A2 : Option Addr) (c2 : Nat) (used : List Bool) (hu : Rw fB 1 w w.heap.size A2 n used) (hh : h < n) (hf : firstT may < n) :
    Calls Try.prog 13 #[.int .i64 h, .slice A1 n c1, .slice A2 n c2] w fun e w' => e = .returned (.bool true) ∧ Below w.heap.size w w' := by
  have hml := hm.1
  have hul := hu.1
  have hE : nextE h may used = 0 := nextE_0.2 ⟨by omega, by omega, by omega, by omega⟩
  obtain ⟨bm, om, rfl, hbm⟩ := rwB_open hm (by omega)
  have HM := Lib.hid hm
  have HU := Lib.hid hu
  have HE := Lib.hid hE
  have HML := Lib.hid hml
  have HUL := Lib.hid hul
  have HF := Lib.hid hf
  have hmk : ∀ w, (Instr.makeSlice 44 (.int .i64 (n : Int)) (.int .i64 (n : Int))).run Try.prog w = .ok (.slice (some ⟨w.heap.size, 0, none⟩) n n) (w.alloc (.cells (zints n) 3)) := fun w => make_int n b1 w
  clear hm hu hml hul hE hf
  go_enter Try.func13, Try.ntmps13
  go_wp2_with fail
  refine (alive11_any _).mono ?_
  rintro e w1 ⟨rfl, hb1⟩
  have hz1 := hb1.size
  go_wp2_with fail
  refine (next_any _ _ n c1 n c2 may used h _ _ (HM.out.on hb1 (Nat.le_refl _)) (HU.out.on hb1 (Nat.le_refl _)) (Nat.le_refl _) (by omega) (by omega)).mono ?_
  rintro e w2 ⟨B1, m1, d1, rfl, ho1, hb2⟩
  have hz2 := hb2.size
  rw [HE.out]
  have HM2 := Lib.hid ((HM.out.on hb1 (Nat.le_refl _)).on hb2 (Nat.le_refl _))
  have HU2 := Lib.hid ((HU.out.on hb1 (Nat.le_refl _)).on hb2 (Nat.le_refl _))
  have hbase : Below w.heap.size w w2 := hb1.trans (hb2.mono hz1)
  clear ho1
  go_wp2
  clear hmk
  go_loopw [0, 2, 37] (fun hd us i wr => ∃ t q : Nat, ∃ Au : Option Addr, ∃ cu : Nat, ∃ cs : List Nat, t ≤ 2 * n ∧ t ≤ q ∧ i = .int .i64 t ∧ hd = .int .i64 (rk h n q : Nat) ∧ us = .slice Au n cu ∧ Rw fB 1 wr wr.heap.size Au n (outK may used h n q) ∧
      Ow fN 1 3 wr w2.heap.size (some ⟨w2.heap.size, 0, none⟩) n n cs ∧ (∀ j, j < n → cs.getD j 0 ≤ t ∧ (0 < cs.getD j 0 ↔ taken may used h n q j)) ∧ Below w2.heap.size w2 wr) (fun _ _ i _ => 2 * n - (intOf i).toNat)
  case atStart =>
    have hbx : Below w2.heap.size w2 (w2.alloc (.cells (zints n) 3)) := (Below.refl _ _).alloc (Nat.le_refl _) _
    exact ⟨0, 0, A2, c2, List.replicate n 0, by omega, by omega, rfl, by rw [rk_0 hh], rfl, HU2.out.on hbx (Nat.le_refl _), zints_own n b1 w2, fun j hj => by
      have e0 : (List.replicate n 0).getD j 0 = 0 := by simp [List.getD, hj]
      rw [e0]
      exact ⟨by omega, fun h => absurd h (by omega), fun ⟨_, h, _⟩ => absurd h (by omega)⟩, hbx⟩
  case round =>
    obtain ⟨t, q, Au, cu, cs, ht, htq, rfl, rfl, rfl, hru, hoc, hcs, hbw⟩ := hrel
    have HRU := Lib.hid hru
    have HOC := Lib.hid hoc
    have HCS := Lib.hid hcs
    have hzw := hbw.size
    clear hru hoc hcs
    by_cases hlt : t < 2 * n
    · obtain ⟨v, K, hvl, eE, eV, eH, eU, eT⟩ := round_step hh HML.out HUL.out HF.out q
      have EE := Lib.hid eE
      have EV := Lib.hid eV
      have EH := Lib.hid eH
      have EU := Lib.hid eU
      have ET := Lib.hid eT
      clear eE eV eH eU eT
      obtain ⟨wo, hwo⟩ : ∃ wo : World, wo = wr := ⟨_, rfl⟩
      subst hwo
      have hgw : w2.heap.size < wo.heap.size := by
        obtain ⟨g', cur', e', _, hh', _⟩ := HOC.out.2.2.2 (by omega)
        injection e' with e'; injection e' with e' _
        rw [e']; exact blk_lt hh'
      go_wp2_with fail
      refine (next_any _ _ n c1 n cu may (outK may used h n q) (rk h n q : Nat) _ _ (HM2.out.on hbw (Nat.le_refl _)) HRU.out (Nat.le_refl _) (by omega) (by omega)).mono ?_
      rintro e w4 ⟨A4, m4, d4, rfl, ho4, hb4⟩
      have hz4 := hb4.size
      rw [EU.out] at ho4
      rw [EV.out, EH.out, EE.out]
      have hm4 : m4 = n := by rw [← ho4.1, outK_len, HUL.out]
      subst hm4
      have HO4 := Lib.hid ho4
      clear ho4
      have hoc4 := HOC.out.below hb4 (Nat.le_refl _)
      obtain ⟨g', cur, e', _, hh', hcc⟩ := hoc4.2.2.2 (by omega)
      injection e' with e'; injection e' with e' _
      subst e'
      have hcl : v < cs.length := by rw [hoc4.1]; exact hvl
      have hcx : cs[v]? = some (cs.getD v 0) := by simp [List.getD, hcl]
      have hc4 : w4.cell? ⟨w2.heap.size, v, none⟩ = some (.int .i64 (cs.getD v 0 : Nat)) := by
        rw [blk_cell hh']
        have := hcc v (cs.getD v 0) hcx 0 _ rfl
        simpa using this
      have hfz : w4.frozen? ⟨w2.heap.size, v, none⟩ = false := blk_free hh' _
      have hyt := (HCS.out v hvl).1
      have HCX := Lib.hid hcx
      have HO := Lib.hid hoc4
      have HH4 := Lib.hid hh'
      clear hcx hoc4 hcc hh'
      generalize cs.getD v 0 = y at *
      go_wp2
      go_roundw
      case rel =>
        have hset : Ow (fun x : Nat => [Value.int .i64 (x : Int)]) 1 3 (w4.setCell ⟨w2.heap.size, v, none⟩ (.int .i64 ((y + 1 : Nat) : Int))) w2.heap.size (some ⟨w2.heap.size, 0, none⟩) m4 m4 (cs.set v (y + 1)) := Ow.set1 (fv := fun x : Nat => Value.int .i64 (x : Int)) HO.out HCX.out
        refine ⟨t + 1, q + K + 1, A4, d4, cs.set v (y + 1), by omega, by omega, by go_num, rfl, rfl, ?_, hset, fun j hj => ?_, ?_⟩
        · have h7 := (HO4.out.set_other (p := ⟨w2.heap.size, v, none⟩) (by simp; omega) (.int .i64 ((y : Int) + 1))).row
          simpa using h7
        · have hjv : (cs.set v (y + 1)).getD j 0 = if v = j then y + 1 else cs.getD j 0 := by
            by_cases e : v = j
            · subst e; simp [List.getD, hcl]
            · simp [List.getD, e]
          rw [hjv, ET.out j]
          obtain ⟨c1, c2⟩ := HCS.out j hj
          split
          · rename_i e
            exact ⟨by omega, fun _ => .inr e.symm, fun _ => by omega⟩
          · rename_i e
            exact ⟨by omega, fun h => .inl (c2.1 h), fun h => c2.2 (h.resolve_right (fun h => e h.symm))⟩
        · exact (hbw.trans (hb4.mono hzw)).setCell (Nat.le_refl _) _
      case measure => simp [intOf]; omega
    · have hto : t = 2 * n := by omega
      have HTA : Hid (∀ j, j < n → (0 < cs.getD j 0 ↔ mb may j = true)) := Lib.hid (fun j hj => (HCS.out j hj).2.trans (taken_all hh (by omega) hj))
      have HTC : Hid (∀ j, j < n → cs.getD j 0 ≤ 2097152) := Lib.hid (fun j hj => by have := (HCS.out j hj).1; omega)
      have HM3 := Lib.hid (HM2.out.on hbw (Nat.le_refl _))
      have hoc := HOC.out.row
      have HOR := Lib.hid hoc
      obtain ⟨w5, hw5⟩ : ∃ w5 : World, w5 = wr := ⟨_, rfl⟩
      subst hw5
      subst hto
      clear hoc
      go_wp2
      go_loop [71] (fun i => ∃ k : Nat, k ≤ n ∧ i = .int .i64 k) (fun i => n - (intOf i).toNat)
      case atStart => exact ⟨0, by omega, rfl⟩
      case round =>
        obtain ⟨k, hk, rfl⟩ := hrel
        by_cases hkl : k < n
        · have y1 : w5.cell? ⟨bm, om + k, none⟩ = some (.bool (mb may k)) := rwB_at HM3.out hkl
          have y2 := rwN_at HOR.out hkl
          rw [Nat.zero_add] at y2
          have f1 := HTA.out k hkl
          have f2 := HTC.out k hkl
          generalize cs.getD k 0 = y at *
          cases hq : mb may k with
          | true =>
            rw [hq] at y1 f1
            have f3 : 0 < y := f1.2 rfl
            clear f1 hq
            go_wp2
            go_round
            case rel => exact ⟨k + 1, by omega, by go_num⟩
            case measure => simp [intOf]; omega
          | false =>
            rw [hq] at y1 f1
            have f3 : y = 0 := by
              rcases Nat.eq_zero_or_pos y with h | h
              · exact h
              · exact absurd (f1.1 h) Bool.false_ne_true
            subst f3
            clear f1 hq
            go_wp2
            go_round
            case rel => exact ⟨k + 1, by omega, by go_num⟩
            case measure => simp [intOf]; omega
        · go_wp2
          go_ret
          exact ⟨rfl, hbase.trans (hbw.mono hbase.size)⟩

theorem clockRound_walk {w : World} (hand : Int) (_ : I64 hand) (A1 : Option Addr) (n1 c1 : Nat) (may : List Bool) (hm : Rw fB 1 w w.heap.size A1 n1 may) (l1 : n1 ≤ c1) (_ : c1 ≤ maxLen) (b1 : c1 ≤ 1048576) (A2 : Option Addr) (n2 c2 : Nat) (used : List Bool) (hu : Rw fB 1 w w.heap.size A2 n2 used) (l2 : n2 ≤ c2) (_ : c2 ≤ maxLen) (b2 : c2 ≤ 1048576) :
    Calls Try.prog 13 #[.int .i64 hand, .slice A1 n1 c1, .slice A2 n2 c2] w fun e w' => e = .returned (.bool true) ∧ Below w.heap.size w w' := by
  by_cases hE : nextE hand may used = 0
  · obtain ⟨e1, e2, e3, e4⟩ := nextE_0.1 hE
    obtain ⟨h, rfl⟩ := Int.eq_ofNat_of_zero_le e2
    have h1 := hm.1
    have h2 := hu.1
    obtain rfl : n1 = n2 := by omega
    exact clockRound_1 h A1 n1 c1 may hm (by omega) A2 c2 used hu (by omega) (by omega)
  · refine clockRound_0 hand A1 n1 c1 may hm (by omega) A2 n2 c2 used hu (by omega) (Lib.hid ?_)
    unfold nextE at *
    split
    · exact .inl rfl
    · split
      · exact .inr (.inl rfl)
      · split
        · rename_i h1 h2 h3; exact absurd (by rw [if_neg h1, if_neg h2, if_pos h3]) hE
        · exact .inr (.inr rfl)
end Go.Proofs.Ytidfngplhjegpaa
