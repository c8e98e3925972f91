/- The reference's FPlay. -/
import Derived.Test.YtfhcjainhpjdfaaTlbP
namespace Go.Proofs.Ytfhcjainhpjdfaa
open Go.ChangeShapes Go.WideShapes Go.ChangeAt Go.RowKit Go.Joins
set_option linter.unusedVariables false
/-- A slice that reads so is handed back. -/
def GivesR {α : Type} (f : α → List Value) (sz : Nat) (base : Nat) (w : World) (ys : List α) (e : Ending) (w' : World) : Prop := ∃ A n c, e = .returned (.slice A n c) ∧ Rw f sz w' w'.heap.size A n ys ∧ Below base w w'
def nextC (x : Cac) (t : List Cac) : List Cac := t.filter (keepR x) ++ if 0 ≤ x.g ∧ x.k ≠ 0 then [x] else []
theorem stepR_next (x : Cac) (t : List Cac) : stepR t x = cut9 (nextC x t) := rfl

set_option maxHeartbeats 4000000 in
set_option maxRecDepth 100000 in
theorem fplay_any (A : Option Addr) (n c : Nat) (xs : List Cac) (w : World) (B : Nat) (hz : Rw fC 4 w B A n xs) (hB : B ≤ w.heap.size) (hbig : n ≤ 140737488355328) :
    Calls Try.prog 12 #[.slice A n c] w (GivesR fC 4 w.heap.size w (playC xs)) := by
  have hln := hz.1
  have HX := Lib.hid (fun (i : Nat) (hi : i < n) => (⟨xs[i]'(by omega), List.getElem?_eq_getElem _⟩ : ∃ x, xs[i]? = some x))
  have HLN := Lib.hid hln
  have HZ := Lib.hid (hz.below ((Below.refl w.heap.size w).mono hB))
  clear hz hln
  have HA : Hid (0 < n → ∃ b off, A = some ⟨b, off, none⟩ ∧ b < B) := Lib.hid (fun h => HZ.out.open h)
  go_enter Try.func12, Try.ntmps12
  go_wp2
  go_loopw [3, 11] (fun s i wr => ∃ (k : Nat) (A3 : Option Addr) (n3 c3 : Nat), k ≤ n ∧ i = .int .i64 k ∧ s = .slice A3 n3 c3 ∧ Hid (Rw fC 4 wr wr.heap.size A3 n3 (playC (xs.take k))) ∧ Hid (Below w.heap.size w wr)) (fun _ i _ => n - (intOf i).toNat)
  case atStart => exact ⟨0, none, 0, 0, by omega, rfl, rfl, Lib.hid Rw.nil, Lib.hid (Below.refl _ _)⟩
  case round =>
    obtain ⟨k, A3, n3, c3, hk, rfl, rfl, HT, HB⟩ := hrel
    by_cases hlt : k < n
    · obtain ⟨x, hx⟩ := HX.out k hlt
      obtain ⟨b, off, hAe, hb⟩ := HA.out (by omega)
      subst hAe
      have hcs := (HZ.out.below (HB.out.mono hB)).at_ fC_len hx
      have c0 : wr.cell? ⟨b, off + k * 4, none⟩ = some (.int .i64 x.p) := hcs 0 _ rfl
      have c1 : wr.cell? ⟨b, off + k * 4 + 1, none⟩ = some (.int .i64 x.g) := hcs 1 _ rfl
      have c2 : wr.cell? ⟨b, off + k * 4 + 2, none⟩ = some (.int .i64 x.k) := hcs 2 _ rfl
      have c3' : wr.cell? ⟨b, off + k * 4 + 3, none⟩ = some (.int .i64 x.n) := hcs 3 _ rfl
      have HS : Hid (playC (xs.take (k + 1)) = cut9 (nextC x (playC (xs.take k)))) := Lib.hid (by rw [take_snoc hx, playC_snoc, ← stepR_next, stepR_eq (playC_len _)])
      have h8 := playC_len (xs.take k)
      clear hcs hx
      generalize playC (xs.take k) = t at *
      obtain rfl : n3 = t.length := HT.out.1.symm
      have hW1 : Below wr.heap.size wr (wr.alloc (.cells #[.int .i64 x.p, .int .i64 x.g, .int .i64 x.k, .int .i64 x.n] 27)) := (Below.refl _ _).alloc (Nat.le_refl _) _
      have HW1 := Lib.hid hW1
      have HT1 := Lib.hid (HT.out.below hW1)
      have HX2 := Lib.hid (fun (i : Nat) (hi : i < t.length) => (⟨t[i]'(by omega), List.getElem?_eq_getElem _⟩ : ∃ y, t[i]? = some y))
      have HA2 : Hid (0 < t.length → ∃ b off, A3 = some ⟨b, off, none⟩ ∧ b < wr.heap.size) := Lib.hid (fun h => HT.out.open h)
      clear hW1
      obtain ⟨wo, hwo⟩ : ∃ wo : World, wo = wr := ⟨_, rfl⟩
      subst hwo
      go_wp2
      clear c0 c1 c2 c3'
      go_loopw [6, 17] (fun s i wr => ∃ (m : Nat) (ys : List Cac) (A6 : Option Addr) (c6 : Nat), m ≤ t.length ∧ i = .int .i64 m ∧ s = .slice A6 ys.length c6 ∧ ys.length ≤ m ∧ Hid (ys = (t.take m).filter (keepR x)) ∧ Hid (Os fC 4 27 wr (wo.heap.size + 1) (.slice A6 ys.length c6) ys) ∧ Hid (Below (wo.heap.size + 1) (wo.alloc (.cells #[.int .i64 x.p, .int .i64 x.g, .int .i64 x.k, .int .i64 x.n] 27)) wr)) (fun _ i _ => t.length - (intOf i).toNat)
      case atStart => exact ⟨0, [], none, 0, by omega, rfl, rfl, by simp, Lib.hid rfl, Lib.hid Os.nil, Lib.hid (Below.refl _ _)⟩
      case round =>
        obtain ⟨m, ys, A6, c6, hm, rfl, rfl, hym, HY, HO, HB2⟩ := hrel
        have hs2 : wo.heap.size < wr.heap.size := by have := HB2.out.size; simp at this; omega
        have d0 : wr.cell? ⟨wo.heap.size, 0, none⟩ = some (.int .i64 x.p) := by rw [HB2.out.cell (p := ⟨wo.heap.size, 0, none⟩) (Nat.lt_succ_self _)]; simp [go_sem]
        have d1 : wr.cell? ⟨wo.heap.size, 1, none⟩ = some (.int .i64 x.g) := by rw [HB2.out.cell (p := ⟨wo.heap.size, 1, none⟩) (Nat.lt_succ_self _)]; simp [go_sem]
        have d2 : wr.cell? ⟨wo.heap.size, 2, none⟩ = some (.int .i64 x.k) := by rw [HB2.out.cell (p := ⟨wo.heap.size, 2, none⟩) (Nat.lt_succ_self _)]; simp [go_sem]
        have d3 : wr.cell? ⟨wo.heap.size, 3, none⟩ = some (.int .i64 x.n) := by rw [HB2.out.cell (p := ⟨wo.heap.size, 3, none⟩) (Nat.lt_succ_self _)]; simp [go_sem]
        by_cases hlt2 : m < t.length
        · obtain ⟨y, hy⟩ := HX2.out m hlt2
          obtain ⟨b2, off2, hAe2, hb2⟩ := HA2.out (by omega)
          subst hAe2
          have hcs := (HT1.out.below (HB2.out.mono (by omega))).at_ fC_len hy
          have e0 : wr.cell? ⟨b2, off2 + m * 4, none⟩ = some (.int .i64 y.p) := hcs 0 _ rfl
          have e1 : wr.cell? ⟨b2, off2 + m * 4 + 1, none⟩ = some (.int .i64 y.g) := hcs 1 _ rfl
          have e2 : wr.cell? ⟨b2, off2 + m * 4 + 2, none⟩ = some (.int .i64 y.k) := hcs 2 _ rfl
          have e3 : wr.cell? ⟨b2, off2 + m * 4 + 3, none⟩ = some (.int .i64 y.n) := hcs 3 _ rfl
          have HN : Hid ((t.take (m + 1)).filter (keepR x) = (t.take m).filter (keepR x) ++ if keepR x y then [y] else []) := Lib.hid (by rw [take_snoc hy, List.filter_append]; simp [List.filter_cons])
          have HW2 := Lib.hid ((Below.refl wr.heap.size wr).alloc (Nat.le_refl _) (.cells #[.int .i64 y.p, .int .i64 y.g, .int .i64 y.k, .int .i64 y.n] 27))
          have HO1 := Lib.hid (HO.out.below HW2.out (Nat.le_refl _))
          have HB3 := Lib.hid (HB2.out.trans (HW2.out.mono (by omega)))
          clear hcs hy
          cases q1 : (y.p != x.p) with
          | true =>
            have HKe : Hid (keepR x y = true) := Lib.hid (by unfold keepR; rw [q1]; rfl)
            go_wp2_with (at_builtin; refine append_C rfl _ _ rfl (wo.heap.size + 1) (.slice A6 ys.length c6) ys _ y _ rfl rfl (by simp) HO1.out (by simp; omega) (by omega) ?_)
            intro g7 c7 w7 ho7 hb7 hg7 hc7 hm7
            have HO7 := Lib.hid ho7
            clear ho7
            go_wp2
            go_roundw
            case rel => exact ⟨m + 1, ys ++ [y], some ⟨g7, 0, none⟩, c7, by omega, by go_num, by simp, by simp; omega, Lib.hid (by rw [HY.out, HN.out, HKe.out]; rfl), Lib.hid (by simpa using HO7.out), Lib.hid (HB3.out.trans hb7)⟩
            case measure => simp [intOf]; omega
          | false =>
            by_cases hg : 0 ≤ x.g
            · cases q2 : (y.g != x.g) with
              | true =>
                have HKe : Hid (keepR x y = true) := Lib.hid (by unfold keepR; rw [q1, q2]; simp [hg])
                go_wp2_with (at_builtin; refine append_C rfl _ _ rfl (wo.heap.size + 1) (.slice A6 ys.length c6) ys _ y _ rfl rfl (by simp) HO1.out (by simp; omega) (by omega) ?_)
                intro g7 c7 w7 ho7 hb7 hg7 hc7 hm7
                have HO7 := Lib.hid ho7
                clear ho7
                go_wp2
                go_roundw
                case rel => exact ⟨m + 1, ys ++ [y], some ⟨g7, 0, none⟩, c7, by omega, by go_num, by simp, by simp; omega, Lib.hid (by rw [HY.out, HN.out, HKe.out]; rfl), Lib.hid (by simpa using HO7.out), Lib.hid (HB3.out.trans hb7)⟩
                case measure => simp [intOf]; omega
              | false =>
                have HKe : Hid (keepR x y = false) := Lib.hid (by unfold keepR; rw [q1, q2]; simp)
                go_wp2
                go_roundw
                case rel => exact ⟨m + 1, ys, A6, c6, by omega, by go_num, rfl, by omega, Lib.hid (by rw [HY.out, HN.out, HKe.out]; simp), HO1, HB3⟩
                case measure => simp [intOf]; omega
            · have hg' : x.g < 0 := by omega
              have HKe : Hid (keepR x y = false) := Lib.hid (by unfold keepR; rw [q1]; simp; omega)
              go_wp2
              go_roundw
              case rel => exact ⟨m + 1, ys, A6, c6, by omega, by go_num, rfl, by omega, Lib.hid (by rw [HY.out, HN.out, HKe.out]; simp), HO1, HB3⟩
              case measure => simp [intOf]; omega
        · have hmt : m = t.length := by omega
          subst hmt
          have HYF : Hid (ys = t.filter (keepR x)) := Lib.hid (by rw [HY.out, List.take_length])
          have HB4 : Hid (Below w.heap.size w wr) := Lib.hid (HB.out.trans (HW1.out.trans (HB2.out.mono (by omega)) |>.mono HB.out.size))
          have hyl : ys.length ≤ 8 := by omega
          by_cases hg : 0 ≤ x.g
          · cases q3 : (x.k != 0) with
            | true =>
              have HNX : Hid (nextC x t = ys ++ [x]) := Lib.hid (by unfold nextC; rw [if_pos ⟨hg, by simpa using q3⟩, HYF.out])
              go_wp2_with (at_builtin; refine append_C rfl _ _ rfl (wo.heap.size + 1) (.slice A6 ys.length c6) ys _ x _ rfl rfl (by simp) HO.out (by omega) (by omega) ?_)
              intro g7 c7 w7 ho7 hb7 hg7 hc7 hm7
              have HB5 : Hid (Below w.heap.size w w7) := Lib.hid (HB4.out.trans (hb7.mono (by have := HB.out.size; omega)))
              have HR7 : Hid (Rw fC 4 w7 w7.heap.size (some ⟨g7, 0, none⟩) (ys.length + 1) (ys ++ [x])) := by
                obtain ⟨A', c', e, _, _, hr⟩ := ho7.row fC_len
                injection e with e1 e2 e3
                subst e1
                exact Lib.hid (by simpa using hr)
              clear ho7 hb7
              by_cases h9 : (ys.length + 1) = 9
              · have h9b : (((ys.length + 1 : Nat) : Int) == 9) = true := by simp; omega
                have h9c : 1 < c7 := by omega
                have h9d : ¬ c7 = 1 := by omega
                clear d0 d1 d2 d3
                go_wp2
                go_roundw
                case rel => exact ⟨k + 1, some ⟨g7, 4, none⟩, (ys.length + 1) - 1, c7 - 1, by omega, by go_num, (by simp; omega), Lib.hid (by rw [HS.out, HNX.out]; unfold cut9; rw [if_pos (by simp; omega)]; have := HR7.out.drop 1; simpa using this), HB5⟩
                case measure => simp [intOf]; omega
              · have h9b : (((ys.length + 1 : Nat) : Int) == 9) = false := by simp; omega
                clear d0 d1 d2 d3
                go_wp2
                go_roundw
                case rel => exact ⟨k + 1, _, _, _, by omega, by go_num, rfl, Lib.hid (by rw [HS.out, HNX.out]; unfold cut9; rw [if_neg (by simp; omega)]; exact HR7.out), HB5⟩
                case measure => simp [intOf]; omega
            | false =>
              have HNX : Hid (nextC x t = ys) := Lib.hid (by unfold nextC; rw [if_neg (by simp at q3; omega), HYF.out, List.append_nil])
              have HB5 := HB4
              have HR7 : Hid (Rw fC 4 wr wr.heap.size A6 ys.length ys) := by
                obtain ⟨A', c', e, _, _, hr⟩ := HO.out.row fC_len
                injection e with e1 e2 e3
                subst e1
                exact Lib.hid hr
              have h9b : (((ys.length : Nat) : Int) == 9) = false := by simp; omega
              go_wp2
              go_roundw
              case rel => exact ⟨k + 1, A6, ys.length, c6, by omega, by go_num, rfl, Lib.hid (by rw [HS.out, HNX.out]; unfold cut9; rw [if_neg (by omega)]; exact HR7.out), HB5⟩
              case measure => simp [intOf]; omega
          · have hg' : x.g < 0 := by omega
            have HNX : Hid (nextC x t = ys) := Lib.hid (by unfold nextC; rw [if_neg (by omega), HYF.out, List.append_nil])
            have HB5 := HB4
            have HR7 : Hid (Rw fC 4 wr wr.heap.size A6 ys.length ys) := by
              obtain ⟨A', c', e, _, _, hr⟩ := HO.out.row fC_len
              injection e with e1 e2 e3
              subst e1
              exact Lib.hid hr
            have h9b : (((ys.length : Nat) : Int) == 9) = false := by simp; omega
            go_wp2
            go_roundw
            case rel => exact ⟨k + 1, A6, ys.length, c6, by omega, by go_num, rfl, Lib.hid (by rw [HS.out, HNX.out]; unfold cut9; rw [if_neg (by omega)]; exact HR7.out), HB5⟩
            case measure => simp [intOf]; omega
    · have hkn : k = n := by omega
      subst hkn
      have HF : Hid (xs.take k = xs) := Lib.hid (List.take_of_length_le (by rw [HLN.out]; exact Nat.le_refl _))
      go_wp2
      go_ret
      exact ⟨A3, n3, c3, rfl, by rw [← HF.out]; exact HT.out, HB.out⟩
end Go.Proofs.Ytfhcjainhpjdfaa
