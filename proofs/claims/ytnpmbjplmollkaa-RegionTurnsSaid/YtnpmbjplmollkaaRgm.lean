/- alive8. -/
import Derived.Test.YtnpmbjplmollkaaRgk
namespace Go.Proofs.Ytnpmbjplmollkaa
open Go.ChangeShapes Go.WideShapes Go.ChangeAt Go.RowKit Go.Joins
set_option linter.unusedVariables false
theorem os_n {T : TypeId} {w : World} {base : Nat} {v : Value} {xs : List Rgn} (h : Os fR 6 T w base v xs) (n : Nat) (hn : xs.length = n) : ∃ A c, v = .slice A n c ∧ Rw fR 6 w w.heap.size A n xs := by
  obtain ⟨A, c, e, _, _, hr⟩ := h.row fR_len
  rw [hn] at e hr
  exact ⟨A, c, e, hr⟩
def a8 : Att := ⟨1, 0, false, false⟩
theorem one_good (x y : Int) (a : Att) (h0 : 0 ≤ x) (h1 : x < y) (h2 : y ≤ 64) : Good [⟨x, y, a⟩] := ⟨fun z hz => by simp at hz; subst hz; exact ⟨h0, h1, h2⟩, by simp⟩
theorem add8 : addE [⟨0, 2, a8⟩] ⟨2, 5, a8⟩ = 0 ∧ addL [⟨0, 2, a8⟩] ⟨2, 5, a8⟩ = [⟨0, 5, a8⟩] := by
  have hE : addE [⟨0, 2, a8⟩] ⟨2, 5, a8⟩ = 0 := rfl
  refine ⟨hE, ?_⟩
  obtain ⟨hr, h0, h1, h2, hi⟩ := add_facts hE
  unfold addL
  rw [if_pos hE, ← norm_of (good_add (right_good hr) h0 h1 h2) (List.Perm.refl _) (show SortedR [⟨0, 2, a8⟩, ⟨2, 5, a8⟩] from by unfold SortedR; simp)]
  rfl
theorem cut8 : cutE [⟨0, 5, a8⟩] 1 3 = 0 ∧ cutL [⟨0, 5, a8⟩] 1 3 = [⟨0, 1, a8⟩, ⟨3, 5, a8⟩] := by
  have hE : cutE [⟨0, 5, a8⟩] 1 3 = 0 := rfl
  refine ⟨hE, ?_⟩
  obtain ⟨hr, h0, h1, h2⟩ := cut_facts hE
  unfold cutL
  rw [if_pos hE, ← norm_of (good_out (right_good hr) (a := 1) (b := 3) (by omega)) (List.Perm.refl _) (show SortedR [⟨0, 1, a8⟩, ⟨3, 5, a8⟩] from by unfold SortedR; simp)]
  rfl
theorem turn8 : turnE [⟨0, 1, a8⟩, ⟨3, 5, a8⟩] 0 4 = 3 := rfl
theorem right8 : rightL [⟨0, 1, a8⟩, ⟨3, 5, a8⟩] = true := rfl
theorem tot8 : tot [⟨0, 1, a8⟩, ⟨3, 5, a8⟩] = 3 := rfl
set_option maxHeartbeats 4000000 in
set_option maxRecDepth 100000 in
theorem alive8_any (w : World) : Calls Try.prog 25 #[] w fun e w' => e = .returned (.bool true) ∧ Below w.heap.size w w' := by
  have hz0 : Rw fR 6 ((w.alloc (.cells #[.int .i64 1, .int .i64 0, .bool false, .bool false] 24)).alloc (.cells #[.int .i64 0, .int .i64 2, .int .i64 1, .int .i64 0, .bool false, .bool false] 26)) ((w.alloc (.cells #[.int .i64 1, .int .i64 0, .bool false, .bool false] 24)).alloc (.cells #[.int .i64 0, .int .i64 2, .int .i64 1, .int .i64 0, .bool false, .bool false] 26)).heap.size (some ⟨w.heap.size + 1, 0, none⟩) 1 [⟨0, 2, a8⟩] := by
    have := os_rw (os_made (T := 26) (w := (w.alloc (.cells #[.int .i64 1, .int .i64 0, .bool false, .bool false] 24))) fR_len [⟨0, 2, a8⟩] 1 rfl (by decide) (Nat.le_refl _))
    rw [show (w.alloc (.cells #[.int .i64 1, .int .i64 0, .bool false, .bool false] 24)).heap.size = w.heap.size + 1 from by simp] at this
    exact this
  have hadd := add_any (some ⟨w.heap.size + 1, 0, none⟩) 1 1 [⟨0, 2, a8⟩] ⟨2, 5, a8⟩ ((w.alloc (.cells #[.int .i64 1, .int .i64 0, .bool false, .bool false] 24)).alloc (.cells #[.int .i64 0, .int .i64 2, .int .i64 1, .int .i64 0, .bool false, .bool false] 26)) _ hz0 (Nat.le_refl _) (by omega)
  clear hz0
  rw [add8.1, add8.2] at hadd
  have HCUT := Lib.hid (fun A c w1 (h : Rw fR 6 w1 w1.heap.size A 1 [⟨0, 5, a8⟩]) => (show Calls Try.prog 14 #[.slice A 1 c, .int .i64 1, .int .i64 3] w1 (TR [⟨0, 1, a8⟩, ⟨3, 5, a8⟩] 0 w1) from by
    have := rcut_any A 1 c [⟨0, 5, a8⟩] 1 3 w1 _ h (Nat.le_refl _) (by omega); rwa [cut8.1, cut8.2] at this))
  have HSEAL := Lib.hid (fun A c w1 (h : Rw fR 6 w1 w1.heap.size A 2 [⟨0, 1, a8⟩, ⟨3, 5, a8⟩]) => (show Calls Try.prog 21 #[.slice A 2 c, .int .i64 0, .int .i64 4] w1 (fun e w' => ∃ v, e = .returned (.tuple #[v, .int .i64 3]) ∧ Below w1.heap.size w1 w') from by
    have := Seal_any A 2 c [⟨0, 1, a8⟩, ⟨3, 5, a8⟩] 0 4 w1 _ h (Nat.le_refl _) (by omega)
    refine this.mono ?_
    rintro e w' ⟨v, rfl, _, hb⟩
    exact ⟨v, by rw [turn8], hb⟩))
  have HCOUNT := Lib.hid (fun A c w1 B (h : Rw fR 6 w1 B A 2 [⟨0, 1, a8⟩, ⟨3, 5, a8⟩]) (hB : B ≤ w1.heap.size) => (show Calls Try.prog 27 #[.slice A 2 c] w1 (fun e w' => e = .returned (.int .i64 3) ∧ Below w1.heap.size w1 w') from by
    have := count_any A 2 c [⟨0, 1, a8⟩, ⟨3, 5, a8⟩] w1 _ h hB (by omega) (fun x hx => (right_good right8).ok x hx)
    rwa [tot8] at this))
  have HRIGHT := Lib.hid (fun A c w1 B (h : Rw fR 6 w1 B A 2 [⟨0, 1, a8⟩, ⟨3, 5, a8⟩]) (hB : B ≤ w1.heap.size) => (show Calls Try.prog 26 #[.slice A 2 c] w1 (fun e w' => e = .returned (.bool true) ∧ Below w1.heap.size w1 w') from by
    have := right_any A 2 c [⟨0, 1, a8⟩, ⟨3, 5, a8⟩] w1 _ h hB (by omega)
    rwa [right8] at this))
  have HEQ := Lib.hid (fun A1 c1 w1 (h1 : Rw fR 6 w1 w1.heap.size A1 1 [⟨0, 5, a8⟩]) => (show Calls Try.prog 16 #[.slice A1 1 c1, .slice (some ⟨w1.heap.size, 0, none⟩) 1 1] (w1.alloc (.cells #[.int .i64 0, .int .i64 5, .int .i64 1, .int .i64 0, .bool false, .bool false] 26)) (fun e w' => e = .returned (.bool true) ∧ Below w1.heap.size w1 w') from by
    have hb : Below w1.heap.size w1 (w1.alloc (.cells #[.int .i64 0, .int .i64 5, .int .i64 1, .int .i64 0, .bool false, .bool false] 26)) := (Below.refl _ _).alloc (Nat.le_refl _) _
    have := equal_R A1 (some ⟨w1.heap.size, 0, none⟩) 1 c1 1 1 [⟨0, 5, a8⟩] [⟨0, 5, a8⟩] _ _ (h1.on hb (Nat.le_refl _)) (os_rw (os_made (T := 26) (w := w1) fR_len [⟨0, 5, a8⟩] 1 rfl (by decide) (Nat.le_refl _))) (Nat.le_refl _) (by omega) (by omega)
    rw [sameL_refl (eq := eqR) (fun a => eqR_iff.2 rfl)] at this
    refine this.mono ?_
    rintro e w' ⟨rfl, hb2⟩
    exact ⟨rfl, hb.trans (hb2.mono hb.size)⟩))
  have HB0 := Lib.hid (show Below w.heap.size w ((w.alloc (.cells #[.int .i64 1, .int .i64 0, .bool false, .bool false] 24)).alloc (.cells #[.int .i64 0, .int .i64 2, .int .i64 1, .int .i64 0, .bool false, .bool false] 26)) from ((Below.refl _ _).alloc (Nat.le_refl _) _).alloc (by simp) _)
  have HBC := Lib.hid (fun w1 (hb1 : Below ((w.alloc (.cells #[.int .i64 1, .int .i64 0, .bool false, .bool false] 24)).alloc (.cells #[.int .i64 0, .int .i64 2, .int .i64 1, .int .i64 0, .bool false, .bool false] 26)).heap.size ((w.alloc (.cells #[.int .i64 1, .int .i64 0, .bool false, .bool false] 24)).alloc (.cells #[.int .i64 0, .int .i64 2, .int .i64 1, .int .i64 0, .bool false, .bool false] 26)) w1) j u (hj : [Value.int .i64 1, .int .i64 0, .bool false, .bool false][j]? = some u) => (show w1.cell? ⟨w.heap.size, j, none⟩ = some u from (hb1.cell (p := ⟨w.heap.size, j, none⟩) (by simp; omega)).trans ((((Below.refl (w.alloc (.cells #[.int .i64 1, .int .i64 0, .bool false, .bool false] 24)).heap.size (w.alloc (.cells #[.int .i64 1, .int .i64 0, .bool false, .bool false] 24))).alloc (Nat.le_refl _) _).cell (p := ⟨w.heap.size, j, none⟩) (by simp)).trans (by
    have := alloc_cells (W := w) (T := 24) j u hj
    rw [addr_add, Nat.zero_add] at this
    exact this))))
  go_enter Try.func25, Try.ntmps25
  go_wp2_with (first
    | (go_at_call 11; refine hadd.mono ?_; rintro e w1 ⟨v1, rfl, ho1, hb1⟩; obtain ⟨A1, c1, rfl, hr1⟩ := os_n ho1 1 rfl; clear ho1)
    | (go_at_call 14; refine (HCUT.out A1 c1 w1 hr1).mono ?_; rintro e w2 ⟨v2, rfl, ho2, hb2⟩; obtain ⟨A2, c2, rfl, hr2⟩ := os_n ho2 2 rfl; clear ho2)
    | (go_at_call 21; refine (HSEAL.out A2 c2 w2 hr2).mono ?_; rintro e w3 ⟨v3, rfl, hb3⟩; have hbb := HBC.out w3 (hb1.trans ((hb2.mono hb1.size).trans (hb3.mono (Nat.le_trans hb1.size hb2.size)))); have bc0 := hbb 0 _ rfl; have bc1 := hbb 1 _ rfl; have bc2 := hbb 2 _ rfl; have bc3 := hbb 3 _ rfl; clear hbb)
    | (go_at_call 16; refine (HEQ.out A1 c1 w3 (hr1.on (hb2.trans (hb3.mono hb2.size)) (Nat.le_refl _))).mono ?_; rintro e w4 ⟨rfl, hb4⟩)
    | (go_at_call 27; refine (HCOUNT.out A2 c2 w4 _ (hr2.on (hb3.trans (hb4.mono hb3.size)) (Nat.le_refl _)) (Nat.le_refl _)).mono ?_; rintro e w5 ⟨rfl, hb5⟩)
    | (go_at_call 26; refine (HRIGHT.out A2 c2 w5 _ (hr2.on ((hb3.trans (hb4.mono hb3.size)).trans (hb5.mono (Nat.le_trans hb3.size hb4.size))) (Nat.le_refl _)) (Nat.le_refl _)).mono ?_; rintro e w6 ⟨rfl, hb6⟩))
  go_ret
  exact ⟨rfl, HB0.out.trans ((hb1.trans ((hb2.mono hb1.size).trans ((hb3.mono (Nat.le_trans hb1.size hb2.size)).trans ((hb4.mono (Nat.le_trans (Nat.le_trans hb1.size hb2.size) hb3.size)).trans ((hb5.mono (Nat.le_trans (Nat.le_trans (Nat.le_trans hb1.size hb2.size) hb3.size) hb4.size)).trans (hb6.mono (Nat.le_trans (Nat.le_trans (Nat.le_trans (Nat.le_trans hb1.size hb2.size) hb3.size) hb4.size) hb5.size))))))).mono (by simp; omega))⟩
end Go.Proofs.Ytnpmbjplmollkaa
