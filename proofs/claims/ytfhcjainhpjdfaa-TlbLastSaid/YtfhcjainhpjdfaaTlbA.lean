/- alive6. -/
import Derived.Test.YtfhcjainhpjdfaaTlbW
import Derived.Test.YtfhcjainhpjdfaaRegU
namespace Go.Proofs.Ytfhcjainhpjdfaa
open Go.ChangeShapes Go.WideShapes Go.ChangeAt Go.RowKit Go.Joins Go.Sort
set_option linter.unusedVariables false
attribute [local go_sem] Oper.quiet Oper.quietAt Oper.quietUpon
/-- A special operation that gives a slice that reads as xs. -/
def Sp.rw {α : Type} (f : α → List Value) (sz at_ : Nat) (xs : List α) : Sp :=
  ⟨at_, fun v => ∃ A c, v = .slice A xs.length c, fun v w => ∃ A c, v = .slice A xs.length c ∧ Rw f sz w w.heap.size A xs.length xs, ⟨_, none, 0, rfl⟩,
    fun _ _ _ ⟨A, c, e, h⟩ hb => ⟨A, c, e, h.on hb (Nat.le_refl _)⟩⟩
/-- A slice that the call has built, as a slice that is read. -/
theorem rw_built {α : Type} {f : α → List Value} {sz : Nat} {T : TypeId} {w : World} (hf : ∀ x, (f x).length = sz) (hs : 0 < sz) (xs : List α) (hm : xs.length ≤ 1000) : Rw f sz (w.alloc (.cells (xs.flatMap f).toArray T)) (w.heap.size + 1) (some ⟨w.heap.size, 0, none⟩) xs.length xs :=
  ⟨rfl, by unfold maxLen; omega, fun _ => ⟨w.heap.size, 0, rfl, Nat.lt_succ_self _, fun i x hx j v hv => by
    have hj : j < sz := by have := (List.getElem?_eq_some_iff.1 hv).1; rwa [hf] at this
    have h1 := flat_at hf xs i x hx j hj
    simp only [World.cell?, World.alloc, Array.getElem?_push_size, Nat.zero_add]
    rw [List.getElem?_toArray, h1, hv]; rfl⟩⟩
def a6 : Cac := ⟨1, 4, 1, 2⟩
def b6 : Cac := ⟨1, 5, 1, 3⟩
def z6 : Cac := ⟨1, -1, 0, 0⟩
theorem play6a : playC [a6, b6, a6] = [b6, a6] := rfl
theorem play6b : playC [a6, b6, z6] = [] := rfl
set_option maxHeartbeats 2000000 in
theorem alive6_any (w : World) : Calls Try.prog 13 #[] w fun e w' => e = .returned (.bool true) ∧ Below w.heap.size w w' := by
  go_enter Try.func13, Try.ntmps13
  go_wp2_with fail
  have gc : ∀ (d : Nat) (os : Array Obj) (b o : Nat), b < w.heap.size + 1 + 1 → (grow (redrawn ((w.alloc (.cells #[.int .i64 1, .int .i64 4, .int .i64 1, .int .i64 2] 27)).alloc (.cells #[.int .i64 1, .int .i64 5, .int .i64 1, .int .i64 3] 27)) d) os).cell? ⟨b, o, none⟩ = ((w.alloc (.cells #[.int .i64 1, .int .i64 4, .int .i64 1, .int .i64 2] 27)).alloc (.cells #[.int .i64 1, .int .i64 5, .int .i64 1, .int .i64 3] 27)).cell? ⟨b, o, none⟩ :=
    fun d os b o h => (below_regrown _ d os).cell (p := ⟨b, o, none⟩) (by simpa using h)
  refine wp_region_rel1 [Sp.rw fC 4 3 [a6, b6, a6], Sp.rw fC 4 4 [b6, a6], Sp.rw fC 4 7 [b6, a6], Sp.call 8 (.bool true), Sp.rw fC 4 13 [a6, b6, z6], Sp.rw fC 4 14 ([] : List Cac)] (by kernel_rfl) (by kernel_rfl) ?_
  intro V hV
  obtain ⟨A3, c3, e3⟩ : ∃ A c, V 3 = .slice A 3 c := hV 3
  obtain ⟨A4, c4, e4⟩ : ∃ A c, V 4 = .slice A 2 c := hV 4
  obtain ⟨A7, c7, e7⟩ : ∃ A c, V 7 = .slice A 2 c := hV 7
  have e8 : V 8 = .bool true := hV 8
  obtain ⟨A13, c13, e13⟩ : ∃ A c, V 13 = .slice A 3 c := hV 13
  obtain ⟨A14, c14, e14⟩ : ∃ A c, V 14 = .slice A 0 c := hV 14
  repeat (refine rel_quiet rfl rfl ?_; go_big_quiet_step (fail); refine wpQuiet_nil ?_)
  refine rel_special (Sp.rw fC 4 3 [a6, b6, a6]) (by kernel_rfl) rfl (fun w' hb hf => ?_) ?_
  · refine becomes_value (v := .slice (some ⟨w'.heap.size, 0, none⟩) 3 3) (w' := w'.alloc (.cells #[.int .i64 1, .int .i64 4, .int .i64 1, .int .i64 2, .int .i64 1, .int .i64 5, .int .i64 1, .int .i64 3, .int .i64 1, .int .i64 4, .int .i64 1, .int .i64 2] 27)) ?_ ((Below.refl _ _).alloc (Nat.le_refl _) _) ⟨⟨_, _, rfl⟩, _, _, rfl, (rw_built (T := 27) fC_len (by decide) [a6, b6, a6] (by decide)).any (by simp)⟩
    go_simp
  go_big_quiet_step (fail)
  refine wpQuiet_nil ?_
  refine rel_special (Sp.rw fC 4 4 [b6, a6]) (by kernel_rfl) rfl (fun w' hb hf => ?_) ?_
  · obtain ⟨A, c, e, hr⟩ : ∃ A c, V 3 = .slice A 3 c ∧ Rw fC 4 w' w'.heap.size A 3 [a6, b6, a6] := hf _ (List.Mem.head _) (by kernel_rfl)
    rw [e3] at e
    cases e
    refine becomes_call (f := 11) (args := #[.slice A3 3 c3]) ?_ ((play_any A3 3 c3 [a6, b6, a6] w' w'.heap.size hr (Nat.le_refl _) (by omega)).mono ?_)
    · go_simp
    · rintro e w'' ⟨v, rfl, ho, hb⟩
      rw [play6a] at ho
      obtain ⟨A, c, rfl, _, _, hr'⟩ := ho.row fC_len
      exact ⟨_, rfl, hb, ⟨_, _, rfl⟩, _, _, rfl, hr'⟩
  go_big_quiet_step (fail)
  refine wpQuiet_nil ?_
  repeat (refine rel_quiet rfl rfl ?_; go_big_quiet_step (fail); refine wpQuiet_nil ?_)
  refine rel_special (Sp.rw fC 4 7 [b6, a6]) (by kernel_rfl) rfl (fun w' hb hf => ?_) ?_
  · refine becomes_value (v := .slice (some ⟨w'.heap.size, 0, none⟩) 2 2) (w' := w'.alloc (.cells #[.int .i64 1, .int .i64 5, .int .i64 1, .int .i64 3, .int .i64 1, .int .i64 4, .int .i64 1, .int .i64 2] 27)) ?_ ((Below.refl _ _).alloc (Nat.le_refl _) _) ⟨⟨_, _, rfl⟩, _, _, rfl, (rw_built (T := 27) fC_len (by decide) [b6, a6] (by decide)).any (by simp)⟩
    go_simp
  go_big_quiet_step (fail)
  refine wpQuiet_nil ?_
  refine rel_special (Sp.call 8 (.bool true)) (by kernel_rfl) rfl (fun w' hb hf => ?_) ?_
  · obtain ⟨A, c, e, hr⟩ : ∃ A c, V 7 = .slice A 2 c ∧ Rw fC 4 w' w'.heap.size A 2 [b6, a6] := hf _ (List.Mem.head _) (by kernel_rfl)
    rw [e7] at e
    cases e
    obtain ⟨A, c, e, hr2⟩ : ∃ A c, V 4 = .slice A 2 c ∧ Rw fC 4 w' w'.heap.size A 2 [b6, a6] := hf _ (List.Mem.tail _ (List.Mem.head _)) (by kernel_rfl)
    rw [e4] at e
    cases e
    have heq := equal_C A4 A7 2 c4 2 c7 [b6, a6] [b6, a6] w' w'.heap.size hr2 hr (Nat.le_refl _) (by omega) (by omega)
    rw [sameL_refl (eq := eqC) (fun a => eqC_iff.2 rfl)] at heq
    refine becomes_call (f := 10) (args := #[.slice A4 2 c4, .slice A7 2 c7]) ?_ (heq.mono ?_)
    · go_simp
    · rintro e w'' ⟨rfl, hb⟩
      exact ⟨_, rfl, hb, rfl, trivial⟩
  go_big_quiet_step (fail)
  refine wpQuiet_nil ?_
  simp only [e8]
  repeat (refine rel_quiet rfl rfl ?_; go_big_quiet_step (fail); refine wpQuiet_nil ?_)
  refine rel_special (Sp.rw fC 4 13 [a6, b6, z6]) (by kernel_rfl) rfl (fun w' hb hf => ?_) ?_
  · refine becomes_value (v := .slice (some ⟨w'.heap.size, 0, none⟩) 3 3) (w' := w'.alloc (.cells #[.int .i64 1, .int .i64 4, .int .i64 1, .int .i64 2, .int .i64 1, .int .i64 5, .int .i64 1, .int .i64 3, .int .i64 1, .int .i64 (-1), .int .i64 0, .int .i64 0] 27)) ?_ ((Below.refl _ _).alloc (Nat.le_refl _) _) ⟨⟨_, _, rfl⟩, _, _, rfl, (rw_built (T := 27) fC_len (by decide) [a6, b6, z6] (by decide)).any (by simp)⟩
    go_simp
  go_big_quiet_step (fail)
  refine wpQuiet_nil ?_
  refine rel_special (Sp.rw fC 4 14 ([] : List Cac)) (by kernel_rfl) rfl (fun w' hb hf => ?_) ?_
  · obtain ⟨A, c, e, hr⟩ : ∃ A c, V 13 = .slice A 3 c ∧ Rw fC 4 w' w'.heap.size A 3 [a6, b6, z6] := hf _ (List.Mem.head _) (by kernel_rfl)
    rw [e13] at e
    cases e
    refine becomes_call (f := 11) (args := #[.slice A13 3 c13]) ?_ ((play_any A13 3 c13 [a6, b6, z6] w' w'.heap.size hr (Nat.le_refl _) (by omega)).mono ?_)
    · go_simp
    · rintro e w'' ⟨v, rfl, ho, hb⟩
      rw [play6b] at ho
      obtain ⟨A, c, rfl, _, _, hr'⟩ := ho.row fC_len
      exact ⟨_, rfl, hb, ⟨_, _, rfl⟩, _, _, rfl, hr'⟩
  go_big_quiet_step (fail)
  refine wpQuiet_nil ?_
  repeat (refine rel_quiet rfl rfl ?_; go_big_quiet_step (fail); refine wpQuiet_nil ?_)
  intro w3 hb3 hf
  clear hf
  go_wp2
  go_ret
  exact ⟨rfl, (((Below.refl _ _).alloc (Nat.le_refl _) _).alloc (by simp) _).trans (hb3.mono (by simp; omega))⟩
end Go.Proofs.Ytfhcjainhpjdfaa
