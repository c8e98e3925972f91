/- buddy.size, fits, New and frames. -/
import Derived.Test.YtnbhchfpfbbngaaBdr
import Derived.Test.YtnbhchfpfbbngaaRegU
import Derived.Test.YtnbhchfpfbbngaaSwn
namespace Go.Proofs.Ytnbhchfpfbbngaa
open Go.ChangeShapes Go.WideShapes Go.ChangeAt Go.RowKit Go.Joins Go.Sort
set_option linter.unusedVariables false

theorem szO_lit {o : Int} (h0 : 0 ≤ o) (h6 : o ≤ 6) : (o = 0 ∧ szO o = 1) ∨ (o = 1 ∧ szO o = 2) ∨ (o = 2 ∧ szO o = 4) ∨ (o = 3 ∧ szO o = 8) ∨ (o = 4 ∧ szO o = 16) ∨ (o = 5 ∧ szO o = 32) ∨ (o = 6 ∧ szO o = 64) := by
  have : o = 0 ∨ o = 1 ∨ o = 2 ∨ o = 3 ∨ o = 4 ∨ o = 5 ∨ o = 6 := by omega
  rcases this with e | e | e | e | e | e | e <;> rw [e] <;> simp [szO]
theorem szO_le {o : Int} (h0 : 0 ≤ o) (h6 : o ≤ 6) : 1 ≤ szO o ∧ szO o ≤ 64 := by
  have := szO_lit h0 h6
  omega
set_option maxHeartbeats 2000000 in
theorem size_any (o : Int) (h0 : 0 ≤ o) (h6 : o ≤ 6) (w : World) : Calls Try.prog 33 #[.int .i64 o] w fun e w' => e = .returned (.int .i64 (szO o)) ∧ w' = w := by
  rcases szO_lit h0 h6 with ⟨rfl, e⟩ | ⟨rfl, e⟩ | ⟨rfl, e⟩ | ⟨rfl, e⟩ | ⟨rfl, e⟩ | ⟨rfl, e⟩ | ⟨rfl, e⟩ <;> rw [e] <;> clear e h0 h6
  all_goals
    go_enter Try.func33, Try.ntmps33
    go_wp2
    go_ret
    exact ⟨rfl, rfl⟩
theorem quiet_same {f : FuncId} {args : Array Value} {v : Value} {w : World} {n : Nat} (h : ∀ w, Calls Try.prog f args w fun e w' => e = .returned v ∧ w' = w) : Calls Try.prog f args (w.drewN n) fun e w'' => e = .returned v ∧ ∃ m, w'' = w.drewN m := Calls.quiet_of_same (h _)
set_option maxHeartbeats 2000000 in
set_option maxRecDepth 100000 in
theorem fits_any (b : Blk) (hb : b.fits) (w : World) : Calls Try.prog 36 #[.agg #[.int .i64 b.a, .int .i64 b.o]] w fun e w' => e = .returned (.bool (okB b)) ∧ Below w.heap.size w w' := by
  have HOK : Hid (okB b = (decide (0 ≤ b.o) && decide (b.o ≤ 6) && decide (0 ≤ b.a) && decide (b.a ≤ 64 - szO b.o) && decide (b.a % szO b.o = 0))) := Lib.hid rfl
  obtain ⟨a, o⟩ := b
  generalize okB ⟨a, o⟩ = res at *
  simp only at HOK
  have hB := (Below.refl w.heap.size w).alloc (Nat.le_refl _) (.cells #[.int .i64 a, .int .i64 o] 30)
  have HBL := Lib.hid (fun n => hB.trans (below_drewN w.heap.size _ n))
  clear hB hb
  by_cases h1 : o < 0
  · have HR : Hid (res = false) := Lib.hid (by rw [HOK.out]; simp; omega)
    clear HOK
    have hd : decide (0 ≤ o) = false := by simp; omega
    go_enter Try.func36, Try.ntmps36
    go_wp2
    go_quiet (fail)
    go_wp2
    go_ret
    exact ⟨ret_b HR.out.symm, HBL.out _⟩
  have h1' : 0 ≤ o := by omega
  by_cases h2 : 6 < o
  · have HR : Hid (res = false) := Lib.hid (by rw [HOK.out]; simp; omega)
    clear HOK
    have hd : decide (o ≤ 6) = false := by simp; omega
    go_enter Try.func36, Try.ntmps36
    go_wp2
    go_quiet (fail)
    go_wp2
    go_ret
    exact ⟨ret_b HR.out.symm, HBL.out _⟩
  have h2' : o ≤ 6 := by omega
  by_cases h3 : a < 0
  · have HR : Hid (res = false) := Lib.hid (by rw [HOK.out]; simp; omega)
    clear HOK
    have hd : decide (0 ≤ a) = false := by simp; omega
    go_enter Try.func36, Try.ntmps36
    go_wp2
    go_quiet (fail)
    go_wp2
    go_ret
    exact ⟨ret_b HR.out.symm, HBL.out _⟩
  have h3' : 0 ≤ a := by omega
  have hs := size_any o h1' h2'
  obtain ⟨s1, s2⟩ := szO_le h1' h2'
  have hsn : ¬ szO o = 0 := by omega
  by_cases h4 : 64 - szO o < a
  · have HR : Hid (res = false) := Lib.hid (by rw [HOK.out]; simp; omega)
    clear HOK
    generalize szO o = s at *
    have hd : decide (a ≤ 64 - s) = false := by simp; omega
    go_enter Try.func36, Try.ntmps36
    go_wp2
    go_quiet (first | (go_at_call 33; exact quiet_same hs))
    go_wp2
    go_ret
    exact ⟨ret_b HR.out.symm, HBL.out _⟩
  have h4' : a ≤ 64 - szO o := by omega
  have HR : Hid (res = (a % szO o == 0)) := Lib.hid (by
    rw [HOK.out]
    rw [Bool.eq_iff_iff]
    simp [h1', h2', h3', h4'])
  clear HOK
  generalize szO o = s at *
  go_enter Try.func36, Try.ntmps36
  go_wp2
  go_quiet (first | (go_at_call 33; exact quiet_same hs))
  go_wp2
  go_ret
  exact ⟨ret_b HR.out.symm, HBL.out _⟩
set_option maxHeartbeats 2000000 in
theorem bnew_any (w : World) : Calls Try.prog 16 #[] w fun e w' => e = .returned (.slice (some ⟨w.heap.size, 0, none⟩) 1 1) ∧ w' = w.alloc (.cells #[.int .i64 0, .int .i64 6] 30) := by
  go_enter Try.func16, Try.ntmps16
  go_wp2
  go_ret
  exact ⟨rfl, rfl⟩
theorem bnew_own (w : World) : Calls Try.prog 16 #[] w fun e w' => ∃ v, e = .returned v ∧ Os fB 2 30 w' w.heap.size v newL ∧ Below w.heap.size w w' :=
  (bnew_any w).mono fun e w' ⟨h1, h2⟩ => ⟨_, h1, by rw [h2]; exact Os.mk (xs := newL) (c := 1) (cur := #[.int .i64 0, .int .i64 6]) (Nat.le_refl _) (by show (w.heap.push _)[w.heap.size]? = _; exact Array.getElem?_push_size) (by simp [newL]) (by decide) rfl fB_len (by simp [newL, fB]), by rw [h2]; exact (Below.refl _ w).alloc (Nat.le_refl _) _⟩
end Go.Proofs.Ytnbhchfpfbbngaa
