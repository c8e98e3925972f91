/- TlbLast: its walk. -/
import Derived.Test.YtfhcjainhpjdfaaTlbA
import Derived.Test.YtfhcjainhpjdfaaSw
namespace Go.Proofs.Ytfhcjainhpjdfaa
open Go.ChangeShapes Go.WideShapes Go.ChangeAt Go.RowKit Go.Joins Go.Sort
set_option linter.unusedVariables false
theorem last_pred (c : Cac) (w : World) (b base : Nat) (hb : b < base) (hbase : base ≤ w.heap.size) (hc0 : w.cell? ⟨b, 0, none⟩ = some (.int .i64 c.p)) (hc1 : w.cell? ⟨b, 1, none⟩ = some (.int .i64 c.g)) :
    PredC 19 #[.pointer (some ⟨b, 0, none⟩)] (mineC c) base w := by
  intro W x hW
  have h0 : W.cell? ⟨b, 0, none⟩ = some (.int .i64 c.p) := (hW.cell (p := ⟨b, 0, none⟩) hb).trans hc0
  have h1 : W.cell? ⟨b, 1, none⟩ = some (.int .i64 c.g) := (hW.cell (p := ⟨b, 1, none⟩) hb).trans hc1
  have hlt : b < W.heap.size := by have := hW.size; omega
  clear hW hc0 hc1
  cases hq : x.p == c.p with
  | true =>
    have HQ := Lib.hid hq
    have hq' : x.p = c.p := by simpa using hq
    clear hq
    by_cases hg : c.g < 0
    · go_enter Try.func19, Try.ntmps19
      go_wp2
      go_ret
      exact ⟨ret_b (by unfold mineC; rw [HQ.out]; simp [hg]), (Below.refl _ _).alloc (Nat.le_refl _) _⟩
    · have hg' : 0 ≤ c.g := by omega
      go_enter Try.func19, Try.ntmps19
      go_wp2
      go_ret
      exact ⟨ret_b (by unfold mineC; rw [HQ.out]; simp; omega), (Below.refl _ _).alloc (Nat.le_refl _) _⟩
  | false =>
    have HQ := Lib.hid hq
    go_enter Try.func19, Try.ntmps19
    go_wp2
    go_ret
    exact ⟨ret_b (by unfold mineC; rw [HQ.out]; simp), (Below.refl _ _).alloc (Nat.le_refl _) _⟩

set_option maxHeartbeats 4000000 in
set_option maxRecDepth 100000 in
theorem tlbLast_walk {w : World} (A : Option Addr) (n c : Nat) (xs : List Cac) (hz : Rw fC 4 w w.heap.size A n xs) (hwf : ∀ x ∈ xs, x.fits) (_ : n ≤ c) (_ : c ≤ maxLen) (hbig : c ≤ 4398046510976) (x : Cac) (_ : x.fits) :
    Calls Try.prog 6 #[.slice A n c, .agg #[.int .i64 x.p, .int .i64 x.g, .int .i64 x.k, .int .i64 x.n]] w fun e w' => e = .returned (.bool true) ∧ Below w.heap.size w w' := by
  have hln := hz.1
  have hle : xs.length ≤ 4398046510976 := by omega
  have HZ := Lib.hid hz
  have HLN := Lib.hid hln
  clear hz hwf hln
  have h8 := playC_len (xs ++ [x])
  go_enter Try.func6, Try.ntmps6
  go_wp2_with fail
  refine (alive6_any _).mono ?_
  rintro e w1 ⟨rfl, hb1⟩
  simp only [World.size_alloc] at hb1
  have hs1 : w.heap.size < w1.heap.size := by have := hb1.size; simp at this; omega
  have d0 : w1.cell? ⟨w.heap.size, 0, none⟩ = some (.int .i64 x.p) := by rw [hb1.cell (p := ⟨w.heap.size, 0, none⟩) (Nat.lt_succ_self _)]; simp [go_sem]
  have d1 : w1.cell? ⟨w.heap.size, 1, none⟩ = some (.int .i64 x.g) := by rw [hb1.cell (p := ⟨w.heap.size, 1, none⟩) (Nat.lt_succ_self _)]; simp [go_sem]
  have d2 : w1.cell? ⟨w.heap.size, 2, none⟩ = some (.int .i64 x.k) := by rw [hb1.cell (p := ⟨w.heap.size, 2, none⟩) (Nat.lt_succ_self _)]; simp [go_sem]
  have d3 : w1.cell? ⟨w.heap.size, 3, none⟩ = some (.int .i64 x.n) := by rw [hb1.cell (p := ⟨w.heap.size, 3, none⟩) (Nat.lt_succ_self _)]; simp [go_sem]
  have HB1 := Lib.hid hb1
  have HZ1 : Hid (Rw fC 4 w1 w.heap.size A n xs) := Lib.hid (HZ.out.below (((Below.refl w.heap.size w).alloc (Nat.le_refl _) _).trans (hb1.mono (by omega))))
  clear hb1
  obtain ⟨i0, hi, hz0, hz1, hz2⟩ := info_parts info_C
  go_wp2
  go_region_law (first
    | (refine step_call 18 #[.slice A n c] rfl (by go_simp) (clone_C A n c xs _ w.heap.size (HZ1.out.below (by first | exact below_drew _ _ | exact (below_drew _ _).alloc (by show w.heap.size ≤ w1.heap.size; omega) _)) (by first | (show w.heap.size ≤ w1.heap.size; omega) | (simp; omega)) (by omega)) (fun e w' h => by obtain ⟨v, rfl, _⟩ := h; exact ⟨v, rfl⟩) ?_
       rintro v w2 ⟨v', e, ho, hb2⟩
       injection e with e
       subst e
       obtain ⟨A2, c2, rfl, _, _, _⟩ := ho.row fC_len
       have HB2 : Hid (Below (w.heap.size + 1) w1 w2) := Lib.hid (by first | exact (below_drew _ _).trans (hb2.mono (by show _ ≤ w1.heap.size; omega)) | exact ((below_drew _ _).alloc (by show _ ≤ w1.heap.size; omega) _).trans (hb2.mono (by simp; omega)))
       have HO := Lib.hid (ho.rebase (show w.heap.size + 1 ≤ _ by first | (show _ ≤ w1.heap.size; omega) | (simp; omega)))
       have hs2 : w.heap.size < w2.heap.size := by have := HB2.out.size; omega
       have e0 := (HB2.out.cell (p := ⟨w.heap.size, 0, none⟩) (Nat.lt_succ_self _)).trans d0
       have e1 := (HB2.out.cell (p := ⟨w.heap.size, 1, none⟩) (Nat.lt_succ_self _)).trans d1
       have e2 := (HB2.out.cell (p := ⟨w.heap.size, 2, none⟩) (Nat.lt_succ_self _)).trans d2
       have e3 := (HB2.out.cell (p := ⟨w.heap.size, 3, none⟩) (Nat.lt_succ_self _)).trans d3
       try (have HNB : Hid (∀ j u, (fC x)[j]? = some u → w2.cell? (Addr.add ⟨w1.heap.size, 0, none⟩ j) = some u) := Lib.hid (alloc_cells_on (W := w1.drew) (vs := fC x) hb2))
       clear ho hb2)
    | (refine step_append_own rfl (.tmp 10) (.tmp 12) 22 rfl (w.heap.size + 1) 27 i0 (.agg #[.int .i64 0, .int .i64 0, .int .i64 0, .int .i64 0]) 4 32 Try.underlying22 hi hz0 hz1 hz2 rfl (by decide) (.slice A2 xs.length c2) xs.length (xs.flatMap fC) (by simp [Act.eval]) (HO.out.below ((Below.refl _ _).alloc (Nat.le_refl _) _) (Nat.le_refl _)) ⟨w2.heap.size, 0, none⟩ 1 1 (fC x) (by simp [Act.eval]) rfl (fun j u h => alloc_cells (vs := fC x) (W := w2) j u h) (fC_one1 x) (by unfold maxLen; omega) (by omega) (by first | omega | (simp; omega)) ?_
       intro v3 w3 hown hgrow
       obtain ⟨g3, c3, rfl, hg3, hc3, hm3⟩ := own_form hown (by omega)
       have HB3 : Hid (Below (w.heap.size + 1) w1 w3) := Lib.hid (HB2.out.trans (((Below.refl _ w2).alloc (by omega) _).trans (grown_below hgrow (HO.out.below ((Below.refl _ _).alloc (Nat.le_refl _) _) (Nat.le_refl _)) (Nat.le_refl _) (by simp; omega))))
       have HO3 : Hid (Os fC 4 27 w3 (w.heap.size + 1) (.slice (some ⟨g3, 0, none⟩) (xs.length + 1) c3) (xs ++ [x])) := Lib.hid (os_append (ys := [x]) (by simpa using hown) (by simp))
       clear hown hgrow)
    | (refine step_append_own rfl (.tmp 10) (.tmp 12) 22 rfl (w.heap.size + 1) 27 i0 (.agg #[.int .i64 0, .int .i64 0, .int .i64 0, .int .i64 0]) 4 32 Try.underlying22 hi hz0 hz1 hz2 rfl (by decide) (.slice A2 xs.length c2) xs.length (xs.flatMap fC) (by simp [Act.eval]) HO.out ⟨w1.heap.size, 0, none⟩ 1 1 (fC x) (by simp [Act.eval]) rfl HNB.out (fC_one1 x) (by unfold maxLen; omega) (by omega) (by first | omega | (simp; omega)) ?_
       intro v3 w3 hown hgrow
       obtain ⟨g3, c3, rfl, hg3, hc3, hm3⟩ := own_form hown (by omega)
       have HB3 : Hid (Below (w.heap.size + 1) w1 w3) := Lib.hid (HB2.out.trans (grown_below hgrow HO.out (Nat.le_refl _) (by omega)))
       have HO3 : Hid (Os fC 4 27 w3 (w.heap.size + 1) (.slice (some ⟨g3, 0, none⟩) (xs.length + 1) c3) (xs ++ [x])) := Lib.hid (os_append (ys := [x]) (by simpa using hown) (by simp))
       clear hown hgrow)
    | (refine step_call 11 #[.slice (some ⟨g3, 0, none⟩) (xs.length + 1) c3] rfl (by go_simp) (play_any (some ⟨g3, 0, none⟩) (xs.length + 1) c3 (xs ++ [x]) _ w3.heap.size (by obtain ⟨A', c', e, _, _, hr⟩ := HO3.out.row fC_len; injection e with e5 e6 e7; subst e5; simpa using hr) (Nat.le_refl _) (by omega)) (fun e w' h => by obtain ⟨v, rfl, _⟩ := h; exact ⟨v, rfl⟩) ?_
       rintro v w4 ⟨v', e, ho4, hb4⟩
       injection e with e
       subst e
       obtain ⟨A4, c4, rfl, _, _, hr4⟩ := ho4.row fC_len
       have HB4 : Hid (Below (w.heap.size + 1) w1 w4) := Lib.hid (HB3.out.trans (hb4.mono (by have := HB3.out.size; omega)))
       have HR4 := Lib.hid hr4
       clear ho4 hb4 hr4))
  all_goals
    have HBw : Hid (Below w.heap.size w w1) := Lib.hid (((Below.refl w.heap.size w).alloc (Nat.le_refl _) _).trans (HB1.out.mono (by omega)))
    have hs4 : w.heap.size < w4.heap.size := by have := HB4.out.size; omega
    have f0 : w4.cell? ⟨w.heap.size, 0, none⟩ = some (.int .i64 x.p) := (HB4.out.cell (p := ⟨w.heap.size, 0, none⟩) (Nat.lt_succ_self _)).trans d0
    have f1 : w4.cell? ⟨w.heap.size, 1, none⟩ = some (.int .i64 x.g) := (HB4.out.cell (p := ⟨w.heap.size, 1, none⟩) (Nat.lt_succ_self _)).trans d1
    have f2 : w4.cell? ⟨w.heap.size, 2, none⟩ = some (.int .i64 x.k) := (HB4.out.cell (p := ⟨w.heap.size, 2, none⟩) (Nat.lt_succ_self _)).trans d2
    have f3 : w4.cell? ⟨w.heap.size, 3, none⟩ = some (.int .i64 x.n) := (HB4.out.cell (p := ⟨w.heap.size, 3, none⟩) (Nat.lt_succ_self _)).trans d3
    clear d0 d1 d2 d3 hi hz0 hz1 hz2 e0 e1 e2 e3
    by_cases hg : x.g < 0
    · have hP := last_pred x w4 w.heap.size (w.heap.size + 1) (Nat.lt_succ_self _) (by omega) f0 f1
      have hcall := containsFunc_C _ _ (enters_of Try.func19 (by kernel_rfl) rfl) (mineC x) A4 (playC (xs ++ [x])).length c4 (playC (xs ++ [x])) w4 w4.heap.size (w.heap.size + 1) HR4.out (Nat.le_refl _) (by omega) (by omega) hP
      rw [last_gone (.inl hg)] at hcall
      clear hP
      generalize (playC (xs ++ [x])).length = L at *
      go_wp2_with fail
      refine hcall.mono ?_
      rintro e w5 ⟨rfl, hb5⟩
      clear hcall
      go_wp2
      go_ret
      exact ⟨rfl, HBw.out.trans (HB4.out.mono (by omega) |>.trans (hb5.mono (by omega)))⟩
    · have hg' : 0 ≤ x.g := by omega
      cases hq : (x.k == 0) with
      | true =>
        have hP := last_pred x w4 w.heap.size (w.heap.size + 1) (Nat.lt_succ_self _) (by omega) f0 f1
        have hcall := containsFunc_C _ _ (enters_of Try.func19 (by kernel_rfl) rfl) (mineC x) A4 (playC (xs ++ [x])).length c4 (playC (xs ++ [x])) w4 w4.heap.size (w.heap.size + 1) HR4.out (Nat.le_refl _) (by omega) (by omega) hP
        rw [last_gone (.inr (by simpa using hq))] at hcall
        clear hP
        generalize (playC (xs ++ [x])).length = L at *
        go_wp2_with fail
        refine hcall.mono ?_
        rintro e w5 ⟨rfl, hb5⟩
        clear hcall
        go_wp2
        go_ret
        exact ⟨rfl, HBw.out.trans (HB4.out.mono (by omega) |>.trans (hb5.mono (by omega)))⟩
      | false =>
        obtain ⟨hL0, hLx⟩ := last_here (l := xs) (c := x) hg (by simpa using hq)
        obtain ⟨b4, off4, rfl, hb4⟩ := HR4.out.open hL0
        have hcs := HR4.out.at_ fC_len hLx
        generalize (playC (xs ++ [x])).length = L at *
        obtain ⟨m, rfl⟩ : ∃ m, L = m + 1 := ⟨L - 1, by omega⟩
        have e0 : w4.cell? ⟨b4, off4 + m * 4, none⟩ = some (.int .i64 x.p) := hcs 0 _ rfl
        have e1 : w4.cell? ⟨b4, off4 + m * 4 + 1, none⟩ = some (.int .i64 x.g) := hcs 1 _ rfl
        have e2 : w4.cell? ⟨b4, off4 + m * 4 + 2, none⟩ = some (.int .i64 x.k) := hcs 2 _ rfl
        have e3 : w4.cell? ⟨b4, off4 + m * 4 + 3, none⟩ = some (.int .i64 x.n) := hcs 3 _ rfl
        have heq : ∀ w, (Op.equalIn 10000 27 (.agg #[.int .i64 x.p, .int .i64 x.g, .int .i64 x.k, .int .i64 x.n]) (.agg #[.int .i64 x.p, .int .i64 x.g, .int .i64 x.k, .int .i64 x.n])).run Try.prog w = .ok true w := fun w => by rw [run_eqCd 9997, eqC_iff.2 rfl]
        clear hcs hLx
        go_wp2
        go_quiet (fail)
        go_wp2
        go_ret
        exact ⟨rfl, HBw.out.trans ((HB4.out.mono (show w.heap.size ≤ w.heap.size + 1 by omega)).trans (below_drewN _ _ _))⟩
end Go.Proofs.Ytfhcjainhpjdfaa
