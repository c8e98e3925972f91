/- Slices of bools: Clone, Index, Contains, Equal. -/
import Derived.Test.YtidfngplhjegpaaRw
import Derived.BigQuiet
namespace Go.Proofs.Ytidfngplhjegpaa
open Go.ChangeShapes Go.WideShapes Go.ChangeAt Go.RowKit Go.Joins
set_option linter.unusedVariables false

def fB (b : Bool) : List Value := [.bool b]
theorem fB_len (b : Bool) : (fB b).length = 1 := rfl
theorem rwB_at {w : World} {B : Nat} {b off n i : Nat} {xs : List Bool} (h : Rw fB 1 w B (some ⟨b, off, none⟩) n xs) (hi : i < n) : w.cell? ⟨b, off + i, none⟩ = some (.bool (xs.getD i false)) := by
  obtain ⟨b', off', e, _, hc⟩ := h.2.2 (by omega)
  injection e with e
  injection e with e1 e2
  subst e1 e2
  have hl : i < xs.length := by rw [h.1]; exact hi
  have := hc i xs[i] (List.getElem?_eq_getElem hl) 0 (.bool xs[i]) rfl
  simp only [Nat.mul_one, Nat.add_zero] at this
  rw [this]; simp [List.getD, hl]
theorem rwB_open {w : World} {B : Nat} {A : Option Addr} {n : Nat} {xs : List Bool} (h : Rw fB 1 w B A n xs) (hn : 0 < n) : ∃ b off, A = some ⟨b, off, none⟩ ∧ b < B := by
  obtain ⟨b, off, e, hb, _⟩ := h.2.2 hn; exact ⟨b, off, e, hb⟩

theorem boolInfo : (Try.prog.info? 4).map (fun i => (i.zero, i.size, i.bytes)) = some (some (.bool false), 1, 1) := by kernel_rfl
theorem eq_nilB (w : World) (a : Option Addr) (n c n' c' : Nat) : (binOp .eql 45 (.slice a n c) (.slice none n' c')).run Try.prog w = .ok (.bool a.isNone) w := Lib.run_eql_slice_nil w _ _ a n c n' c' Try.underlying45

set_option maxHeartbeats 2000000 in
theorem cloneB_any (A : Option Addr) (n c : Nat) (xs : List Bool) (w : World) (B : Nat) (hz : Rw fB 1 w B A n xs) (_ : B ≤ w.heap.size) (hbig : n ≤ 140737488355328) :
    Calls Try.prog 45 #[.slice A n c] w fun e w' => ∃ A' c', e = .returned (.slice A' n c') ∧ Ow fB 1 4 w' w.heap.size A' n c' xs ∧ Below w.heap.size w w' := by
  have q := eq_nilB
  cases A with
  | none =>
    have h0 : n = 0 := by
      rcases Nat.eq_zero_or_pos n with h | h
      · exact h
      · obtain ⟨_, _, e, _⟩ := hz.2.2 h; cases e
    subst h0
    have hl := hz.1
    have HL := Lib.hid hl
    clear hl hz
    go_enter Try.func45, Try.ntmps45
    go_wp2
    go_ret
    exact ⟨none, 0, rfl, ⟨HL.out, Nat.le_refl _, by simp, fun h => absurd h (by omega)⟩, Below.refl _ _⟩
  | some x =>
    obtain ⟨i0, hi, hz0, hz1, hz2⟩ := info_parts boolInfo
    obtain ⟨hl, hcell⟩ := Rw.cells fB_len (by decide) hz
    have HC := Lib.hid hcell
    have HL := Lib.hid hl
    clear hcell hl hz
    go_enter Try.func45, Try.ntmps45
    go_wp2_with (at_builtin; refine wpList_append_own _ rfl _ _ 45 rfl w.heap.size 4 i0 (.bool false) 1 1 Try.underlying45 hi hz0 hz1 hz2 rfl (by decide) _ _ _ rfl (World.ownsRow_made w #[] 0 (Nat.le_refl _) (Nat.zero_le _) rfl) x n c (xs.flatMap fB) rfl ?qc1 ?qc2 ?qc3 ?qc4 ?qc5 ?qc6 ?_)
    case qc1 => exact HL.out
    case qc2 =>
      intro j u hj
      exact Lib.cell?_alloc_some _ (HC.out j u hj)
    case qc3 => intro u hu; obtain ⟨y, _, hy⟩ := List.mem_flatMap.1 hu; simp [fB] at hy; subst hy; rfl
    case qc4 => unfold maxLen; omega
    case qc5 => omega
    case qc6 => simp
    intro v' w1 hown hgrow hnil
    go_wp2
    go_ret
    obtain ⟨A', c', rfl, ho⟩ := Ow.of_row fB_len (by decide) hown
    exact ⟨A', c', rfl, ho, ((Below.refl _ w).alloc (Nat.le_refl _) _).grown hgrow (by simp) (by intro k hk; simp [Value.ownBlock] at hk; omega)⟩

/-- Where the first one is that is true; the list's length: nowhere. -/
def firstT : List Bool → Nat
  | [] => 0
  | b :: l => if b then 0 else firstT l + 1
theorem firstT_le : ∀ l : List Bool, firstT l ≤ l.length
  | [] => Nat.le_refl _
  | b :: l => by unfold firstT; split <;> simp [firstT_le l]
theorem firstT_spec : ∀ (l : List Bool) (i : Nat), i < firstT l → l.getD i false = false
  | [], i, h => by simp [firstT] at h
  | b :: l, i, h => by
    unfold firstT at h
    split at h
    · omega
    · rename_i hb
      cases i with
      | zero => simpa using hb
      | succ i => simpa using firstT_spec l i (by omega)
theorem firstT_yes : ∀ (l : List Bool), firstT l < l.length → l.getD (firstT l) false = true
  | [], h => by simp [firstT] at h
  | b :: l, h => by
    unfold firstT at *
    split at h
    · rename_i hb; simp [hb]
    · rename_i hb
      rw [if_neg hb]
      have := firstT_yes l (by simpa using h)
      simpa using this
def indexT (l : List Bool) : Int := if firstT l < l.length then firstT l else -1

set_option maxHeartbeats 2000000 in
theorem indexB_any (A : Option Addr) (n c : Nat) (xs : List Bool) (w : World) (B : Nat) (hz : Rw fB 1 w B A n xs) (hbig : n ≤ 140737488355328) :
    Calls Try.prog 49 #[.slice A n c, .bool true] w fun e w' => e = .returned (.int .i64 (indexT xs)) ∧ w' = w := by
  have hl := hz.1
  have hfl := firstT_le xs
  rw [hl] at hfl
  have H1 := Lib.hid (firstT_spec xs)
  have H2 := Lib.hid (firstT_yes xs)
  have HL := Lib.hid hl
  have HI : Hid (indexT xs = if firstT xs < n then (firstT xs : Int) else -1) := Lib.hid (by unfold indexT; rw [hl])
  clear hl
  generalize firstT xs = m at *
  have HZ := Lib.hid hz
  clear hz
  rcases Nat.eq_zero_or_pos n with h0 | h0
  · subst h0
    go_enter Try.func49, Try.ntmps49
    go_wp2
    go_loop [5, 8] (fun _ i => i = .int .i64 0) (fun _ i => 1 - (intOf i).toNat)
    case atStart => exact rfl
    case round =>
      subst hrel
      go_wp2
      go_ret
      exact ⟨ret_i (by rw [HI.out, if_neg (by omega)]), rfl⟩
  · obtain ⟨b, off, rfl, hb⟩ := rwB_open HZ.out h0
    go_enter Try.func49, Try.ntmps49
    go_wp2
    go_loop [5, 8] (fun _ i => ∃ k : Nat, k ≤ m ∧ i = .int .i64 k) (fun _ i => n - (intOf i).toNat)
    case atStart => exact ⟨0, by omega, rfl⟩
    case round =>
      obtain ⟨k, hk, rfl⟩ := hrel
      by_cases hlt : k < n
      · have hck := rwB_at HZ.out hlt
        by_cases hm : k < m
        · have hx := H1.out k hm
          rw [hx] at hck
          go_wp2
          go_round
          case rel => exact ⟨k + 1, by omega, by go_num⟩
          case measure => simp [intOf]; omega
        · have hkm : k = m := by omega
          subst hkm
          have hx := H2.out (by rw [HL.out]; exact hlt)
          rw [hx] at hck
          go_wp2
          go_ret
          exact ⟨ret_i (by rw [HI.out, if_pos hlt]), rfl⟩
      · have hkm : k = m := by omega
        subst hkm
        go_wp2
        go_ret
        exact ⟨ret_i (by rw [HI.out, if_neg hlt]), rfl⟩
end Go.Proofs.Ytidfngplhjegpaa
