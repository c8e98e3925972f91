/- region.Right and region.cut. -/
import Derived.Test.YtnpmbjplmollkaaRgl
import Derived.Test.YtnpmbjplmollkaaSlR
namespace Go.Proofs.Ytnpmbjplmollkaa
open Go.ChangeShapes Go.WideShapes Go.ChangeAt Go.RowKit Go.Joins
set_option linter.unusedVariables false

set_option maxHeartbeats 4000000 in
set_option maxRecDepth 100000 in
theorem right_any (A : Option Addr) (n c : Nat) (xs : List Rgn) (w : World) (B : Nat) (hz : Rw fR 6 w B A n xs) (hB : B ≤ w.heap.size) (hbig : n ≤ 140737488355328) :
    Calls Try.prog 26 #[.slice A n c] w fun e w' => e = .returned (.bool (rightL xs)) ∧ Below w.heap.size w w' := by
  have hln := hz.1
  have HX := Lib.hid (fun (i : Nat) (hi : i < n) => (⟨xs[i]'(by omega), List.getElem?_eq_getElem _⟩ : ∃ x, xs[i]? = some x))
  have HLN := Lib.hid hln
  have HZ := Lib.hid hz
  have HBAD := Lib.hid (rightG_bad xs none)
  have HGOOD := Lib.hid (rightG_good xs none)
  have HRE : Hid (rightL xs = rightG none xs) := Lib.hid rfl
  generalize rightG none xs = res at *
  generalize rightL xs = res2 at *
  have HA : Hid (0 < n → ∃ b off, A = some ⟨b, off, none⟩ ∧ b < B) := Lib.hid (fun h => HZ.out.open h)
  clear hz hln
  go_enter Try.func26, Try.ntmps26
  go_wp2
  go_loopw [7] (fun i wr => ∃ k : Nat, k ≤ n ∧ i = .int .i64 k ∧ Hid (Below w.heap.size w wr) ∧ Hid (∀ j x, j < k → xs[j]? = some x → okR x = true ∧ ∀ p, (if j = 0 then none else xs[j - 1]?) = some p → nextOk p x = true)) (fun i _ => n - (intOf i).toNat)
  case atStart => exact ⟨0, by omega, rfl, Lib.hid (Below.refl _ _), Lib.hid (fun j x hj => absurd hj (Nat.not_lt_zero _))⟩
  case round =>
    obtain ⟨k, hk, rfl, HB, HG⟩ := hrel
    have hsz := HB.out.size
    by_cases hlt : k < n
    · obtain ⟨x, hx⟩ := HX.out k hlt
      obtain ⟨b, off, hAe, hb⟩ := HA.out (by omega)
      subst hAe
      have hcs := (HZ.out.below (HB.out.mono hB)).at_ fR_len hx
      have xc0 : wr.cell? ⟨b, off + k * 6, none⟩ = some (.int .i64 x.f) := hcs 0 _ rfl
      have xc1 : wr.cell? ⟨b, off + k * 6 + 1, none⟩ = some (.int .i64 x.t) := hcs 1 _ rfl
      have xc2 : wr.cell? ⟨b, off + k * 6 + 2, none⟩ = some (.int .i64 x.a.r) := hcs 2 _ rfl
      have xc3 : wr.cell? ⟨b, off + k * 6 + 3, none⟩ = some (.int .i64 x.a.k) := hcs 3 _ rfl
      have xc4 : wr.cell? ⟨b, off + k * 6 + 4, none⟩ = some (.bool x.a.g) := hcs 4 _ rfl
      have xc5 : wr.cell? ⟨b, off + k * 6 + 5, none⟩ = some (.bool x.a.s) := hcs 5 _ rfl
      have HX0 := Lib.hid hx
      clear hcs hx
      by_cases h1 : x.f < 0
      · have HOK : Hid (okR x = false) := Lib.hid (by unfold okR; simp; omega)
        go_wp2
        go_ret
        exact ⟨ret_b (by rw [HRE.out, HBAD.out k x HX0.out (.inl HOK.out)]), HB.out.alloc hsz _⟩
      · have h1' : 0 ≤ x.f := by omega
        by_cases h2 : 64 < x.t
        · have HOK : Hid (okR x = false) := Lib.hid (by unfold okR; simp; omega)
          go_wp2
          go_ret
          exact ⟨ret_b (by rw [HRE.out, HBAD.out k x HX0.out (.inl HOK.out)]), HB.out.alloc hsz _⟩
        · have h2' : x.t ≤ 64 := by omega
          by_cases h3 : x.t ≤ x.f
          · have HOK : Hid (okR x = false) := Lib.hid (by unfold okR; simp; omega)
            go_wp2
            go_ret
            exact ⟨ret_b (by rw [HRE.out, HBAD.out k x HX0.out (.inl HOK.out)]), HB.out.alloc hsz _⟩
          · have h3' : x.f < x.t := by omega
            have HOK : Hid (okR x = true) := Lib.hid (by unfold okR; simp; omega)
            cases k with
            | zero =>
              rw [Nat.zero_mul, Nat.add_zero] at xc0 xc1 xc2 xc3 xc4 xc5
              go_wp2
              go_quiet (fail)
              go_wp2
              go_roundw
              case rel => exact ⟨0 + 1, by omega, by go_num, Lib.hid ((HB.out.alloc hsz _).trans (below_drewN _ _ _)), Lib.hid (fun j y hj hy => by
                by_cases e : j = 0
                · subst e
                  rw [HX0.out] at hy; cases hy
                  exact ⟨HOK.out, fun q hq => by simp at hq⟩
                · exact HG.out j y (by omega) hy)⟩
              case measure => simp [intOf]; omega
            | succ m =>
              obtain ⟨p, hp⟩ := HX.out m (by omega)
              have hps := (HZ.out.below (HB.out.mono hB)).at_ fR_len hp
              have pc0 : wr.cell? ⟨b, off + m * 6, none⟩ = some (.int .i64 p.f) := hps 0 _ rfl
              have pc1 : wr.cell? ⟨b, off + m * 6 + 1, none⟩ = some (.int .i64 p.t) := hps 1 _ rfl
              have pc2 : wr.cell? ⟨b, off + m * 6 + 2, none⟩ = some (.int .i64 p.a.r) := hps 2 _ rfl
              have pc3 : wr.cell? ⟨b, off + m * 6 + 3, none⟩ = some (.int .i64 p.a.k) := hps 3 _ rfl
              have pc4 : wr.cell? ⟨b, off + m * 6 + 4, none⟩ = some (.bool p.a.g) := hps 4 _ rfl
              have pc5 : wr.cell? ⟨b, off + m * 6 + 5, none⟩ = some (.bool p.a.s) := hps 5 _ rfl
              have HP0 := Lib.hid hp
              have hbw : b < wr.heap.size := by omega
              have hm0 : (0 : Int) < (m : Int) + 1 := by omega
              have hmn : (m : Int) < (n : Int) := by omega
              have hm1 : m < n := by omega
              have hm2 : (0 : Int) ≤ (m : Int) := by omega
              have hmw : IntKind.i64.wrap (m : Int) = (m : Int) := by rw [IntKind.wrap_i64]; omega
              clear hps hp
              by_cases h4 : x.f < p.t
              · have HNX : Hid (nextOk p x = false) := Lib.hid (by unfold nextOk; simp [h4])
                go_wp2
                go_quiet (fail)
                go_wp2
                go_ret
                exact ⟨ret_b (by rw [HRE.out, HBAD.out (m + 1) x HX0.out (.inr ⟨p, by rw [if_neg (by omega), Nat.add_sub_cancel]; exact HP0.out, HNX.out⟩)]), (HB.out.alloc hsz _).trans (below_drewN _ _ _)⟩
              · have h4' : p.t ≤ x.f := by omega
                have hd4 : decide (x.f < p.t) = false := decide_eq_false (by omega)
                cases h5 : (p.t == x.f) with
                | false =>
                  have HNX : Hid (nextOk p x = true) := Lib.hid (by unfold nextOk; rw [h5]; simp; omega)
                  go_wp2
                  go_quiet (fail)
                  clear hmw
                  go_wp2
                  go_roundw
                  case rel => exact ⟨m + 1 + 1, by omega, by go_num, Lib.hid ((HB.out.alloc hsz _).trans (below_drewN _ _ _)), Lib.hid (fun j y hj hy => by
                    by_cases e : j = m + 1
                    · subst e
                      rw [HX0.out] at hy; cases hy
                      exact ⟨HOK.out, fun q hq => by rw [if_neg (by omega), Nat.add_sub_cancel, HP0.out] at hq; cases hq; exact HNX.out⟩
                    · exact HG.out j y (by omega) hy)⟩
                  case measure => simp [intOf]; omega
                | true =>
                  have hqA : ∀ w, (Op.equalIn 10000 24 (.agg #[.int .i64 p.a.r, .int .i64 p.a.k, .bool p.a.g, .bool p.a.s]) (.agg #[.int .i64 x.a.r, .int .i64 x.a.k, .bool x.a.g, .bool x.a.s])).run Try.prog w = .ok (eqA p.a x.a) w := run_eqA p.a x.a
                  cases h6 : eqA p.a x.a with
                  | false =>
                    rw [h6] at hqA
                    have HNX : Hid (nextOk p x = true) := Lib.hid (by unfold nextOk; rw [h5, h6]; simp; omega)
                    clear h6
                    go_wp2
                    go_quiet (fail)
                    clear hmw
                    go_wp2
                    go_roundw
                    case rel => exact ⟨m + 1 + 1, by omega, by go_num, Lib.hid ((HB.out.alloc hsz _).trans (below_drewN _ _ _)), Lib.hid (fun j y hj hy => by
                      by_cases e : j = m + 1
                      · subst e
                        rw [HX0.out] at hy; cases hy
                        exact ⟨HOK.out, fun q hq => by rw [if_neg (by omega), Nat.add_sub_cancel, HP0.out] at hq; cases hq; exact HNX.out⟩
                      · exact HG.out j y (by omega) hy)⟩
                    case measure => simp [intOf]; omega
                  | true =>
                    rw [h6] at hqA
                    have HNX : Hid (nextOk p x = false) := Lib.hid (by unfold nextOk; rw [h5, h6]; simp)
                    clear h6
                    go_wp2
                    go_quiet (fail)
                    go_wp2
                    go_ret
                    exact ⟨ret_b (by rw [HRE.out, HBAD.out (m + 1) x HX0.out (.inr ⟨p, by rw [if_neg (by omega), Nat.add_sub_cancel]; exact HP0.out, HNX.out⟩)]), (HB.out.alloc hsz _).trans (below_drewN _ _ _)⟩
    · have hkn : n = k := by omega
      subst hkn
      go_wp2
      go_ret
      exact ⟨ret_b (by rw [HRE.out, HGOOD.out (fun j x hj hx => HG.out j x (by rw [HLN.out] at hj; exact hj) hx)]), HB.out⟩
end Go.Proofs.Ytnpmbjplmollkaa
