/- Slices of ints, and alive9. -/
import Derived.Test.YtnpmbjplmollkaaRgu
namespace Go.Proofs.Ytnpmbjplmollkaa
open Go.ChangeShapes Go.WideShapes Go.ChangeAt Go.RowKit Go.Joins
set_option linter.unusedVariables false
theorem row_of_rw {w : World} {B : Nat} {A : Option Addr} {n : Nat} {zs : List Int} (h : Rw fI 1 w B A n zs) : Row .i64 w B A n zs := by
  obtain ⟨h1, h2, h3⟩ := h
  refine ⟨h1, h2, fun hn => ?_⟩
  obtain ⟨b, off, e, hb, hc⟩ := h3 hn
  refine ⟨b, off, e, hb, fun i hi => ?_⟩
  have hl : i < zs.length := by omega
  have := hc i zs[i] (List.getElem?_eq_getElem hl) 0 _ rfl
  rw [Nat.mul_one, Nat.add_zero] at this
  rw [this]; simp [List.getD, List.getElem?_eq_getElem hl]
set_option maxHeartbeats 2000000 in
theorem equalI_same (A1 A2 : Option Addr) (n c1 c2 : Nat) (zs : List Int) (w : World) (B : Nat) (h1 : Row .i64 w B A1 n zs) (h2 : Row .i64 w B A2 n zs) (m1 : n ≤ 140737488355328) :
    Calls Try.prog 31 #[.slice A1 n c1, .slice A2 n c2] w fun e w' => e = .returned (.bool true) ∧ Below w.heap.size w w' := by
  rcases Nat.eq_zero_or_pos n with h0 | h0
  · subst h0
    have hx : ((0 : Int) != 0) = false := rfl
    go_enter Try.func31, Try.ntmps31
    go_wp2
    go_loop [13] (fun i => i = .int .i64 0) (fun i => 1 - (intOf i).toNat)
    case atStart => exact rfl
    case round =>
      subst hrel
      go_wp2
      go_ret
      exact ⟨rfl, Below.refl _ _⟩
  · obtain ⟨b1, o1, rfl, _, _⟩ := h1.2.2 h0
    obtain ⟨b2, o2, rfl, _, _⟩ := h2.2.2 h0
    have H1 := Lib.hid h1
    have H2 := Lib.hid h2
    clear h1 h2
    go_enter Try.func31, Try.ntmps31
    go_wp2
    go_loopw [13] (fun i wr => ∃ k : Nat, k ≤ n ∧ i = .int .i64 k ∧ Below w.heap.size w wr ∧ (∀ p : Addr, wr.cell? p = w.cell? p)) (fun i _ => n - (intOf i).toNat)
    case atStart => exact ⟨0, by omega, rfl, Below.refl _ _, fun _ => rfl⟩
    case round =>
      obtain ⟨k, hk, rfl, hbw, hcell⟩ := hrel
      have HC := Lib.hid hcell
      by_cases hlt : k < n
      · have hc1 : wr.cell? ⟨b1, o1 + k, none⟩ = some (.int .i64 (zs.getD k 0)) := by
          obtain ⟨b, off, e, _, h⟩ := H1.out.at_ hlt
          injection e with e; injection e with e5 e6; subst e5 e6
          exact (hcell _).trans h
        have hc2 : wr.cell? ⟨b2, o2 + k, none⟩ = some (.int .i64 (zs.getD k 0)) := by
          obtain ⟨b, off, e, _, h⟩ := H2.out.at_ hlt
          injection e with e; injection e with e5 e6; subst e5 e6
          exact (hcell _).trans h
        generalize zs.getD k 0 = z at *
        have hk0 : (0 : Int) ≤ (k : Int) := by omega
        have hkn : (k : Int) < (n : Int) := by omega
        clear hcell
        go_wp2
        go_quiet (fail)
        go_wp2
        go_roundw
        case rel => exact ⟨k + 1, by omega, by go_num, hbw.trans (below_drewN _ _ _), fun p => HC.out p⟩
        case measure => simp [intOf]; omega
      · clear hcell
        go_wp2
        go_ret
        exact ⟨rfl, hbw⟩

set_option maxHeartbeats 2000000 in
theorem indexI_any (A : Option Addr) (n c : Nat) (zs : List Int) (v : Int) (m : Nat) (w : World) (B : Nat) (hz : Row .i64 w B A n zs) (hbig : n ≤ 140737488355328) (hm : m < n) (h1 : zs.getD m 0 = v) (h2 : ∀ j, j < m → zs.getD j 0 ≠ v) :
    Calls Try.prog 47 #[.slice A n c, .int .i64 v] w fun e w' => e = .returned (.int .i64 m) ∧ w' = w := by
  obtain ⟨b, off, rfl, hbB, hcc⟩ := hz.2.2 (by omega)
  clear hbB hcc
  have HZ := Lib.hid hz
  have H2 := Lib.hid h2
  have H1 := Lib.hid h1
  clear hz h1 h2
  go_enter Try.func47, Try.ntmps47
  go_wp2
  go_loopw [5, 8] (fun _ i wr => ∃ k : Nat, k ≤ m ∧ i = .int .i64 k ∧ wr = w) (fun _ i _ => n - (intOf i).toNat)
  case atStart => exact ⟨0, by omega, rfl, rfl⟩
  case round =>
    obtain ⟨k, hk, rfl, rfl⟩ := hrel
    have hlt : k < n := by omega
    have hc1 : wr.cell? ⟨b, off + k, none⟩ = some (.int .i64 (zs.getD k 0)) := by
      obtain ⟨b', off', e, _, h⟩ := HZ.out.at_ hlt
      injection e with e; injection e with e5 e6; subst e5 e6
      exact h
    by_cases hkm : k < m
    · have hne : (v == zs.getD k 0) = false := by rw [beq_eq_false_iff_ne]; exact fun e => H2.out k hkm e.symm
      generalize zs.getD k 0 = z at *
      go_wp2
      go_roundw
      case rel => exact ⟨k + 1, by omega, by go_num, trivial⟩
      case measure => simp [intOf]; omega
    · have hkm2 : k = m := by omega
      subst hkm2
      rw [H1.out] at hc1
      go_wp2
      go_ret
      exact ⟨rfl, rfl⟩
theorem first_at {zs : List Int} {v : Int} (h : v ∈ zs) : ∃ m, m < zs.length ∧ zs.getD m 0 = v ∧ ∀ j, j < m → zs.getD j 0 ≠ v := by
  have hl : zs.findIdx (fun z => z == v) < zs.length := List.findIdx_lt_length.2 ⟨v, h, by simp⟩
  refine ⟨_, hl, ?_, fun j hj => ?_⟩
  · have := List.findIdx_getElem (w := hl)
    rw [List.getD_eq_getElem?_getD, List.getElem?_eq_getElem hl]
    simpa using this
  · have := List.not_of_lt_findIdx hj
    have hjl : j < zs.length := by omega
    rw [List.getD_eq_getElem?_getD, List.getElem?_eq_getElem hjl]
    simpa using this
set_option maxHeartbeats 2000000 in
theorem containsI_yes (A : Option Addr) (n c : Nat) (zs : List Int) (v : Int) (w : World) (B : Nat) (hz : Rw fI 1 w B A n zs) (hbig : n ≤ 1000) (hv : v ∈ zs) :
    Calls Try.prog 35 #[.slice A n c, .int .i64 v] w fun e w' => e = .returned (.bool true) ∧ w' = w := by
  obtain ⟨m, h1, h2, h3⟩ := first_at hv
  have hln := hz.1
  have hcall := indexI_any A n c zs v m w B (row_of_rw hz) (by omega) (by omega) h2 h3
  clear hz h1 h2 h3 hln hv
  go_enter Try.func35, Try.ntmps35
  go_wp2_with (go_at_call 47; refine hcall.mono ?_; rintro e w' ⟨rfl, hw⟩; rw [hw]; clear hw)
  go_ret
  exact ⟨rfl, rfl⟩
/-- What All gives, at a length of its own. -/
theorem os_i {T : TypeId} {w : World} {base : Nat} {v : Value} {xs : List Int} (h : Os fI 1 T w base v xs) (n : Nat) (hn : xs.length = n) : ∃ A c, v = .slice A n c ∧ Rw fI 1 w w.heap.size A n xs := by
  obtain ⟨A, c, e, _, _, hr⟩ := h.row fI_len
  rw [hn] at e hr
  exact ⟨A, c, e, hr⟩
theorem ch9a : chE [⟨3, 62, ⟨0, 0, false, false⟩⟩] 1 = 0 := by kernel_rfl
theorem ch9b : chN [⟨3, 62, ⟨0, 0, false, false⟩⟩] 1 4 = 1 := by kernel_rfl
theorem ch9c : chE [⟨3, 62, ⟨0, 0, false, false⟩⟩] 3 = 4 := by kernel_rfl
theorem ch9d : chN [⟨3, 62, ⟨0, 0, false, false⟩⟩] 3 0 = 0 := by kernel_rfl
theorem all9 : allP [⟨3, 62, ⟨0, 0, false, false⟩⟩] 1 = [0, 1, 63] := by kernel_rfl
set_option maxHeartbeats 4000000 in
set_option maxRecDepth 100000 in
theorem alive9_any (w : World) : Calls Try.prog 34 #[] w fun e w' => e = .returned (.bool true) ∧ Below w.heap.size w w' := by
  have hz0 : Rw fR 6 (w.alloc (.cells #[.int .i64 3, .int .i64 62, .int .i64 0, .int .i64 0, .bool false, .bool false] 26)) (w.heap.size + 1) (some ⟨w.heap.size, 0, none⟩) 1 [⟨3, 62, ⟨0, 0, false, false⟩⟩] := by
    have := os_rw (os_made (T := 26) (w := w) fR_len [⟨3, 62, ⟨0, 0, false, false⟩⟩] 1 rfl (by decide) (Nat.le_refl _))
    rwa [World.size_alloc] at this
  have HB0 := Lib.hid ((Below.refl w.heap.size w).alloc (Nat.le_refl _) (.cells #[.int .i64 3, .int .i64 62, .int .i64 0, .int .i64 0, .bool false, .bool false] 26))
  have HZ := Lib.hid (fun w1 (h1 : Below (w.heap.size + 1) (w.alloc (.cells #[.int .i64 3, .int .i64 62, .int .i64 0, .int .i64 0, .bool false, .bool false] 26)) w1) => hz0.below h1)
  have HCA := Lib.hid (show Calls Try.prog 29 #[.slice (some ⟨w.heap.size, 0, none⟩) 1 1, .int .i64 1, .int .i64 4] (w.alloc (.cells #[.int .i64 3, .int .i64 62, .int .i64 0, .int .i64 0, .bool false, .bool false] 26)) (fun e w' => e = .returned (.tuple #[.int .i64 1, .int .i64 0]) ∧ Below (w.heap.size + 1) (w.alloc (.cells #[.int .i64 3, .int .i64 62, .int .i64 0, .int .i64 0, .bool false, .bool false] 26)) w') from by
    have h := choose_any (some ⟨w.heap.size, 0, none⟩) 1 1 [⟨3, 62, ⟨0, 0, false, false⟩⟩] 1 4 _ _ hz0 (by simp) (by omega) (by unfold I64; omega) (by unfold I64; omega)
    rw [ch9a, ch9b] at h
    refine h.mono fun e w' hh => ⟨hh.1, ?_⟩
    have := hh.2
    rwa [World.size_alloc] at this)
  have HCB := Lib.hid (fun w1 (h1 : Below (w.heap.size + 1) (w.alloc (.cells #[.int .i64 3, .int .i64 62, .int .i64 0, .int .i64 0, .bool false, .bool false] 26)) w1) => (show Calls Try.prog 29 #[.slice (some ⟨w.heap.size, 0, none⟩) 1 1, .int .i64 3, .int .i64 0] w1 (fun e w' => e = .returned (.tuple #[.int .i64 0, .int .i64 4]) ∧ Below w1.heap.size w1 w') from by
    have h := choose_any (some ⟨w.heap.size, 0, none⟩) 1 1 [⟨3, 62, ⟨0, 0, false, false⟩⟩] 3 0 w1 _ (hz0.below h1) (by have := h1.size; simp at this; omega) (by omega) (by unfold I64; omega) (by unfold I64; omega)
    rw [ch9c, ch9d] at h
    exact h))
  have HAL := Lib.hid (fun w1 (h1 : Below (w.heap.size + 1) (w.alloc (.cells #[.int .i64 3, .int .i64 62, .int .i64 0, .int .i64 0, .bool false, .bool false] 26)) w1) => (show Calls Try.prog 32 #[.slice (some ⟨w.heap.size, 0, none⟩) 1 1, .int .i64 1] w1 (Gives fI 1 3 w1.heap.size w1 [0, 1, 63]) from by
    have h := all_any (some ⟨w.heap.size, 0, none⟩) 1 1 [⟨3, 62, ⟨0, 0, false, false⟩⟩] 1 w1 _ (hz0.below h1) (by have := h1.size; simp at this; omega) (by omega) (by unfold I64; omega)
    rw [all9] at h
    exact h))
  have HEQ := Lib.hid (fun A1 c1 w1 (h1 : Rw fI 1 w1 w1.heap.size A1 3 [0, 1, 63]) => (show Calls Try.prog 31 #[.slice A1 3 c1, .slice (some ⟨w1.heap.size, 0, none⟩) 3 3] (w1.alloc (.cells #[.int .i64 0, .int .i64 1, .int .i64 63] 3)) (fun e w' => e = .returned (.bool true) ∧ Below w1.heap.size w1 w') from by
    have hb : Below w1.heap.size w1 (w1.alloc (.cells #[.int .i64 0, .int .i64 1, .int .i64 63] 3)) := (Below.refl _ _).alloc (Nat.le_refl _) _
    have h2 : Rw fI 1 (w1.alloc (.cells #[.int .i64 0, .int .i64 1, .int .i64 63] 3)) (w1.alloc (.cells #[.int .i64 0, .int .i64 1, .int .i64 63] 3)).heap.size (some ⟨w1.heap.size, 0, none⟩) 3 [0, 1, 63] := by
      obtain ⟨A, c, e, hr⟩ := os_i (os_made (T := 3) (w := w1) fI_len [0, 1, 63] 3 rfl (by decide) (Nat.le_refl _)) 3 rfl
      injection e with e1
      subst e1
      exact hr
    refine (equalI_same A1 _ 3 c1 3 [0, 1, 63] _ _ (row_of_rw (h1.on hb (Nat.le_refl _))) (row_of_rw h2) (by omega)).mono fun e w' hh => ⟨hh.1, hb.trans (hh.2.mono hb.size)⟩))
  clear hz0
  go_enter Try.func34, Try.ntmps34
  go_wp2_with (first
    | (go_at_call 31; refine (HEQ.out A3 c3 w3 hr3).mono ?_; rintro e w4 ⟨rfl, hb4⟩)
    | (go_at_call 32; refine (HAL.out w2 (hb1.trans (hb2.mono (Nat.le_trans (by simp) hb1.size)))).mono ?_; rintro e w3 ⟨v3, rfl, ho3, hb3⟩; obtain ⟨A3, c3, rfl, hr3⟩ := os_i ho3 3 rfl; clear ho3)
    | (go_at_call 29; refine (HCB.out w1 hb1).mono ?_; rintro e w2 ⟨rfl, hb2⟩)
    | (go_at_call 29; refine HCA.out.mono ?_; rintro e w1 ⟨rfl, hb1⟩))
  go_ret
  have k1 : w.heap.size + 1 ≤ w1.heap.size := Nat.le_trans (by simp) hb1.size
  exact ⟨rfl, HB0.out.trans ((hb1.trans ((hb2.mono k1).trans ((hb3.mono (Nat.le_trans k1 hb2.size)).trans (hb4.mono (Nat.le_trans (Nat.le_trans k1 hb2.size) hb3.size))))).mono (by omega))⟩
end Go.Proofs.Ytnpmbjplmollkaa
