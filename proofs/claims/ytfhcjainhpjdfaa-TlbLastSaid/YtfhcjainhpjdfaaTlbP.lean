/- tlb.Play, and the reference's FPlay. -/
import Derived.Test.YtfhcjainhpjdfaaTlbK
namespace Go.Proofs.Ytfhcjainhpjdfaa
open Go.ChangeShapes Go.WideShapes Go.ChangeAt Go.RowKit Go.Joins
set_option linter.unusedVariables false
theorem Past.below {B B' b : Nat} {w w' : World} (h : Past B b w w') (hB : B' ≤ b) (hB2 : B' ≤ B) : Below B' w w' := by
  obtain ⟨u, h⟩ := h
  exact ((Below.refl B' w).setCell (p := ⟨b, 0, none⟩) (by exact hB) u).trans (h.mono hB2)
theorem append_C {ops : Array Oper} {rest : List Oper} {o : Oper} {a : Act} {Q : Exit → Act → World → Prop} (hgd : o.guard = none) (s x : Operand) (ho : o.op = .call { callee := .builtin .append, args := #[s, x], argTypes := #[22, 22] })
    (base : Nat) (v : Value) (t : List Cac) (W : World) (c : Cac) (gx : Nat) (hs : a.eval s = v) (hx : a.eval x = .slice (some ⟨gx, 0, none⟩) 1 1) (hgx : gx = W.heap.size) (hos : Os fC 4 27 W base v t) (hb : base ≤ W.heap.size) (hlen : t.length + 1 ≤ 4398046511104)
    (hK : ∀ g' c' w', Os fC 4 27 w' base (.slice (some ⟨g', 0, none⟩) (t.length + 1) c') (t ++ [c]) → Below base W w' → base ≤ g' → t.length + 1 ≤ c' → c' ≤ maxLen → wpList Try.prog ops Q rest (a.put o.dst (.slice (some ⟨g', 0, none⟩) (t.length + 1) c')) w') :
    wpList Try.prog ops Q (o :: rest) a (W.alloc (.cells #[.int .i64 c.p, .int .i64 c.g, .int .i64 c.k, .int .i64 c.n] 27)) :=
  append_one Try.underlying22 info_C rfl (by decide) fC_len fC_one1 hgd s x ho base v t W c gx hs hx hgx hos hb (by unfold maxLen; omega) (by omega) hK
theorem take_snoc {α : Type} {xs : List α} {k : Nat} {x : α} (h : xs[k]? = some x) : xs.take (k + 1) = xs.take k ++ [x] := by
  have hl := (List.getElem?_eq_some_iff.1 h).1
  rw [List.take_succ_eq_append_getElem hl, (List.getElem?_eq_some_iff.1 h).2]

set_option maxHeartbeats 1000000 in
theorem play_any (A : Option Addr) (n c : Nat) (xs : List Cac) (w : World) (B : Nat) (hz : Rw fC 4 w B A n xs) (hB : B ≤ w.heap.size) (hbig : n ≤ 140737488355328) :
    Calls Try.prog 11 #[.slice A n c] w (Gives fC 4 27 w.heap.size w (playC xs)) := by
  have hln := hz.1
  have HX := Lib.hid (fun (i : Nat) (hi : i < n) => (⟨xs[i]'(by omega), List.getElem?_eq_getElem _⟩ : ∃ x, xs[i]? = some x))
  have HLN := Lib.hid hln
  have HZ := Lib.hid (hz.below ((Below.refl w.heap.size w).mono hB))
  clear hz hln
  have HA : Hid (0 < n → ∃ b off, A = some ⟨b, off, none⟩ ∧ b < B) := Lib.hid (fun h => HZ.out.open h)
  go_enter Try.func11, Try.ntmps11
  go_wp2
  go_loopw [8] (fun i wr => ∃ k : Nat, k ≤ n ∧ i = .int .i64 k ∧ Hid (Tl wr w.heap.size (playC (xs.take k))) ∧ Hid (Below w.heap.size w wr)) (fun i _ => n - (intOf i).toNat)
  case atStart => exact ⟨0, by omega, rfl, Lib.hid ⟨none, 0, by simp [go_sem, playC], by simp [go_sem], Rw.nil⟩, Lib.hid ((Below.refl _ _).alloc (Nat.le_refl _) _)⟩
  case round =>
    obtain ⟨k, hk, rfl, HT, HB⟩ := hrel
    by_cases hlt : k < n
    · obtain ⟨x, hx⟩ := HX.out k hlt
      obtain ⟨b, off, hAe, hb⟩ := HA.out (by omega)
      subst hAe
      have hcs := (HZ.out.below (HB.out.mono hB)).at_ fC_len hx
      have c0 : wr.cell? ⟨b, off + k * 4, none⟩ = some (.int .i64 x.p) := hcs 0 _ rfl
      have c1 : wr.cell? ⟨b, off + k * 4 + 1, none⟩ = some (.int .i64 x.g) := hcs 1 _ rfl
      have c2 : wr.cell? ⟨b, off + k * 4 + 2, none⟩ = some (.int .i64 x.k) := hcs 2 _ rfl
      have c3 : wr.cell? ⟨b, off + k * 4 + 3, none⟩ = some (.int .i64 x.n) := hcs 3 _ rfl
      have HS : Hid (playC (xs.take (k + 1)) = stepC (playC (xs.take k)) x) := Lib.hid (by rw [take_snoc hx, playC_snoc])
      have h8 := playC_len (xs.take k)
      have hbl : w.heap.size < wr.heap.size := by obtain ⟨A', c', h, _⟩ := HT.out; exact lt_of_cell h
      clear hcs hx
      generalize playC (xs.take k) = t at *
      have hW1 : Below wr.heap.size wr (wr.alloc (.cells #[.int .i64 x.p, .int .i64 x.g, .int .i64 x.k, .int .i64 x.n] 27)) := (Below.refl _ _).alloc (Nat.le_refl _) _
      have HT1 : Hid (Tl (wr.alloc (.cells #[.int .i64 x.p, .int .i64 x.g, .int .i64 x.k, .int .i64 x.n] 27)) w.heap.size t) := by
        obtain ⟨A', c', h1, h2, h3⟩ := HT.out
        exact Lib.hid ⟨A', c', (hW1.cell (p := ⟨w.heap.size, 0, none⟩) hbl).trans h1, (hW1.frozen (p := ⟨w.heap.size, 0, none⟩) hbl).trans h2, h3.on hW1 (Nat.le_refl _)⟩
      have HB1 : Hid (Below w.heap.size w (wr.alloc (.cells #[.int .i64 x.p, .int .i64 x.g, .int .i64 x.k, .int .i64 x.n] 27))) := Lib.hid (HB.out.trans (hW1.mono HB.out.size))
      clear hW1
      by_cases hg : x.g < 0
      · have HE : Hid (stepC t x = dropP x.p t) := Lib.hid (by unfold stepC; rw [if_pos hg])
        go_wp2_with (go_at_call 30; refine (dropAll_any x.p t w.heap.size _ HT1.out (by omega)).mono ?_; rintro e w2 ⟨rfl, htl, hpast⟩)
        go_roundw
        case rel => exact ⟨k + 1, by omega, by go_num, Lib.hid (by rw [HS.out, HE.out]; exact htl.tl), Lib.hid (HB1.out.trans (hpast.below (Nat.le_refl _) (by simp; omega)))⟩
        case measure => simp [intOf]; omega
      · cases hq : (x.k == 0) with
        | true =>
          have HE : Hid (stepC t x = dropG x.p x.g t) := Lib.hid (by unfold stepC; rw [if_neg hg, if_pos (by simpa using hq)])
          go_wp2_with (go_at_call 31; refine (drop_any x.p x.g t w.heap.size _ HT1.out (by omega)).mono ?_; rintro e w2 ⟨rfl, htl, hpast⟩)
          go_roundw
          case rel => exact ⟨k + 1, by omega, by go_num, Lib.hid (by rw [HS.out, HE.out]; exact htl.tl), Lib.hid (HB1.out.trans (hpast.below (Nat.le_refl _) (by simp; omega)))⟩
          case measure => simp [intOf]; omega
        | false =>
          have HE : Hid (stepC t x = cut8 (dropG x.p x.g t ++ [x])) := Lib.hid (by unfold stepC; rw [if_neg hg, if_neg (by simpa using hq)])
          go_wp2_with (go_at_call 32; refine (keep_any x t w.heap.size _ HT1.out (by omega)).mono ?_; rintro e w2 ⟨rfl, htl, hpast⟩)
          go_roundw
          case rel => exact ⟨k + 1, by omega, by go_num, Lib.hid (by rw [HS.out, HE.out]; exact htl), Lib.hid (HB1.out.trans (hpast.below (Nat.le_refl _) (by simp; omega)))⟩
          case measure => simp [intOf]; omega
    · have hkn : k = n := by omega
      subst hkn
      have h8 := playC_len (xs.take k)
      have HF : Hid (xs.take k = xs) := Lib.hid (List.take_of_length_le (by rw [HLN.out]; exact Nat.le_refl _))
      have hsz := HB.out.size
      go_wp2_with (go_at_call 33; refine (all_any (playC (xs.take k)) w.heap.size _ HT.out (by omega)).mono ?_; rintro e w2 ⟨v, rfl, ho, hb2⟩)
      go_ret
      exact ⟨v, rfl, by rw [← HF.out]; exact ho.rebase hsz, HB.out.trans (hb2.mono hsz)⟩
end Go.Proofs.Ytfhcjainhpjdfaa
