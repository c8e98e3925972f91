/- Slices of ints: Clone, Equal at slices that are alike. -/
import Derived.Test.YtfhcjainhpjdfaaSu
import Derived.Test.YtfhcjainhpjdfaaBig
namespace Go.Proofs.Ytfhcjainhpjdfaa
open Go.ChangeShapes Go.WideShapes Go.ChangeAt Go.RowKit Go.Joins
set_option linter.unusedVariables false
theorem i64info : (Try.prog.info? 3).map (fun i => (i.zero, i.size, i.bytes)) = some (some (.int .i64 0), 1, 8) := by kernel_rfl
theorem eq_nilI (w : World) (a : Option Addr) (n c n' c' : Nat) : (binOp .eql 38 (.slice a n c) (.slice none n' c')).run Try.prog w = .ok (.bool a.isNone) w := Lib.run_eql_slice_nil w _ _ a n c n' c' Try.underlying38

set_option maxHeartbeats 2000000 in
theorem cloneI_any (A : Option Addr) (n c : Nat) (zs : List Int) (w : World) (B : Nat) (hz : Row .i64 w B A n zs) (_ : B ≤ w.heap.size) (hbig : n ≤ 17592186044416) :
    Calls Try.prog 39 #[.slice A n c] w fun e w' => ∃ A' c', e = .returned (.slice A' n c') ∧ Own .i64 3 w' w.heap.size A' n c' zs ∧ Below w.heap.size w w' := by
  have q := eq_nilI
  cases A with
  | none =>
    have h0 : n = 0 := by
      rcases Nat.eq_zero_or_pos n with h | h
      · exact h
      · obtain ⟨_, _, e, _⟩ := hz.2.2 h; cases e
    subst h0
    have hl := hz.1
    have HL := Lib.hid hl
    clear hl hz
    go_enter Try.func39, Try.ntmps39
    go_wp2
    go_ret
    exact ⟨none, 0, rfl, ⟨HL.out, Nat.le_refl _, by simp, fun h => absurd h (by omega)⟩, Below.refl _ _⟩
  | some x =>
    obtain ⟨i0, hi, hz0, hz1, hz2⟩ := info_parts i64info
    have hcell : ∀ j u, (zs.map (Value.int .i64))[j]? = some u → w.cell? (x.add j) = some u := by
      intro j u hj
      have hjl : j < zs.length := by
        have := (List.getElem?_eq_some_iff.1 hj).1
        simpa using this
      obtain ⟨b, off, e, hb, hc⟩ := hz.2.2 (by rw [← hz.1]; omega)
      injection e with e
      subst e
      rw [Addr.add_lit, hc j (by rw [← hz.1]; exact hjl)]
      rw [List.getElem?_map, List.getElem?_eq_getElem hjl] at hj
      simp at hj
      rw [← hj, getD_get0 hjl]
    have hl : (zs.map (Value.int .i64)).length = n * 1 := by simp [hz.1]
    have HC := Lib.hid hcell
    have HL := Lib.hid hl
    clear hcell hl hz
    go_enter Try.func39, Try.ntmps39
    go_wp2_with (at_builtin; refine wpList_append_own _ rfl _ _ 38 rfl w.heap.size 3 i0 (.int .i64 0) 1 8 Try.underlying38 hi hz0 hz1 hz2 rfl (by decide) _ _ _ rfl (World.ownsRow_made w #[] 0 (Nat.le_refl _) (Nat.zero_le _) rfl) x n c (zs.map (Value.int .i64)) rfl ?qc1 ?qc2 ?qc3 ?qc4 ?qc5 ?qc6 ?_)
    case qc1 => exact HL.out
    case qc2 =>
      intro j u hj
      exact Lib.cell?_alloc_some _ (HC.out j u hj)
    case qc3 => intro u hu; obtain ⟨y, _, rfl⟩ := List.mem_map.1 hu; rfl
    case qc4 => unfold maxLen; omega
    case qc5 => omega
    case qc6 => simp
    intro v' w1 hown hgrow hnil
    go_wp2
    go_ret

    obtain ⟨A', c', rfl, ho⟩ := Own.of_row hown
    exact ⟨A', c', rfl, ho, ((Below.refl _ w).alloc (Nat.le_refl _) _).grown hgrow (by simp) (by intro k hk; simp [Value.ownBlock] at hk; omega)⟩

set_option maxHeartbeats 2000000 in
theorem equalI_same (A1 A2 : Option Addr) (n c1 c2 : Nat) (zs : List Int) (w : World) (B : Nat) (h1 : Row .i64 w B A1 n zs) (h2 : Row .i64 w B A2 n zs) (m1 : n ≤ 140737488355328) :
    Calls Try.prog 23 #[.slice A1 n c1, .slice A2 n c2] w fun e w' => e = .returned (.bool true) ∧ Below w.heap.size w w' := by
  rcases Nat.eq_zero_or_pos n with h0 | h0
  · subst h0
    have hx : ((0 : Int) != 0) = false := rfl
    go_enter Try.func23, Try.ntmps23
    go_wp2
    go_loop [13] (fun i => i = .int .i64 0) (fun i => 1 - (intOf i).toNat)
    case atStart => exact rfl
    case round =>
      subst hrel
      go_wp2
      go_ret
      exact ⟨rfl, Below.refl _ _⟩
  · obtain ⟨b1, o1, rfl, _, _⟩ := h1.2.2 h0
    obtain ⟨b2, o2, rfl, _, _⟩ := h2.2.2 h0
    have H1 := Lib.hid h1
    have H2 := Lib.hid h2
    clear h1 h2
    go_enter Try.func23, Try.ntmps23
    go_wp2
    go_loopw [13] (fun i wr => ∃ k : Nat, k ≤ n ∧ i = .int .i64 k ∧ Below w.heap.size w wr ∧ (∀ p : Addr, wr.cell? p = w.cell? p)) (fun i _ => n - (intOf i).toNat)
    case atStart => exact ⟨0, by omega, rfl, Below.refl _ _, fun _ => rfl⟩
    case round =>
      obtain ⟨k, hk, rfl, hbw, hcell⟩ := hrel
      have HC := Lib.hid hcell
      by_cases hlt : k < n
      · have hc1 : wr.cell? ⟨b1, o1 + k, none⟩ = some (.int .i64 (zs.getD k 0)) := by
          obtain ⟨b, off, e, _, h⟩ := H1.out.at_ hlt
          injection e with e; injection e with e5 e6; subst e5 e6
          exact (hcell _).trans h
        have hc2 : wr.cell? ⟨b2, o2 + k, none⟩ = some (.int .i64 (zs.getD k 0)) := by
          obtain ⟨b, off, e, _, h⟩ := H2.out.at_ hlt
          injection e with e; injection e with e5 e6; subst e5 e6
          exact (hcell _).trans h
        generalize zs.getD k 0 = z at *
        have hk0 : (0 : Int) ≤ (k : Int) := by omega
        have hkn : (k : Int) < (n : Int) := by omega
        clear hcell
        go_wp2
        go_quiet (fail)
        go_wp2
        go_roundw
        case rel => exact ⟨k + 1, by omega, by go_num, hbw.trans (below_drewN _ _ _), fun p => HC.out p⟩
        case measure => simp [intOf]; omega
      · clear hcell
        go_wp2
        go_ret
        exact ⟨rfl, hbw⟩
end Go.Proofs.Ytfhcjainhpjdfaa
