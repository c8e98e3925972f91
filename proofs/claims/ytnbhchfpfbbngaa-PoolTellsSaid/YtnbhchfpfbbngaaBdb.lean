/- buddy.Right. -/
import Derived.Test.YtnbhchfpfbbngaaBda
import Derived.Test.YtnbhchfpfbbngaaSlB
import Derived.Laws.BitsAllLaws
namespace Go.Proofs.Ytnbhchfpfbbngaa
open Go.ChangeShapes Go.WideShapes Go.ChangeAt Go.RowKit Go.Joins Go.Sort
set_option linter.unusedVariables false
theorem xor_small : ∀ a : Fin 64, ∀ o : Fin 6, ((a.1 ^^^ 2 ^ o.1 : Nat) : Int) = budA (a.1 : Int) (o.1 : Int) := by decide
theorem i64_xor_nat (a b : Nat) (ha : a < 9223372036854775808) (hb : b < 9223372036854775808) : bits .xor .i64 (a : Int) (b : Int) = ((a ^^^ b : Nat) : Int) := by
  have hx : a ^^^ b < 2 ^ 63 := Nat.xor_lt_two_pow (by omega) (by omega)
  have h1 : (BitVec.ofInt 64 (a : Int)).toNat = a := by
    rw [BitVec.ofInt_natCast, BitVec.toNat_ofNat]; exact Nat.mod_eq_of_lt (by omega)
  have h2 : (BitVec.ofInt 64 (b : Int)).toNat = b := by
    rw [BitVec.ofInt_natCast, BitVec.toNat_ofNat]; exact Nat.mod_eq_of_lt (by omega)
  show IntKind.i64.wrap ((BitVec.ofInt 64 (a : Int) ^^^ BitVec.ofInt 64 (b : Int)).toNat : Int) = _
  rw [BitVec.toNat_xor, h1, h2, IntKind.wrap_i64]
  omega
theorem xor_bud {a o : Int} (h0 : 0 ≤ a) (h1 : a < 64) (h2 : 0 ≤ o) (h3 : o < 6) : bits .xor .i64 a (szO o) = budA a o := by
  obtain ⟨n, rfl⟩ := Int.eq_ofNat_of_zero_le h0
  obtain ⟨k, rfl⟩ := Int.eq_ofNat_of_zero_le h2
  have := xor_small ⟨n, by omega⟩ ⟨k, by omega⟩
  rw [szO_nat]
  have h4 : 2 ^ k < 2 ^ 6 := Nat.pow_lt_pow_right (by omega) (by omega)
  rw [i64_xor_nat n (2 ^ k) (by omega) (by omega)]
  exact this
theorem regrown_same {P : Program} {f : FuncId} {args : Array Value} {w : World} {d : Nat} {os : Array Obj} {v : Value}
    (h : ∀ w, Calls P f args w fun e w' => e = .returned v ∧ w' = w) : Calls P f args (grow (redrawn w d) os) fun e w'' => e = .returned v ∧ ∃ p : Regrown, w'' = grow (redrawn w p.d) p.os :=
  (h _).mono fun _ _ ⟨he, hw⟩ => ⟨he, ⟨d, os⟩, hw⟩

set_option maxHeartbeats 4000000 in
set_option maxRecDepth 100000 in
theorem right_any (A : Option Addr) (n c : Nat) (xs : List Blk) (w : World) (B : Nat) (hz : Rw fB 2 w B A n xs) (hf : ∀ x ∈ xs, x.fits) (hB : B ≤ w.heap.size) (hbig : n ≤ 140737488355328) :
    Calls Try.prog 14 #[.slice A n c] w fun e w' => e = .returned (.bool (rightB xs)) ∧ Below w.heap.size w w' := by
  have hln := hz.1
  have HX := Lib.hid (fun (i : Nat) (hi : i < n) => (⟨xs[i]'(by omega), List.getElem?_eq_getElem _⟩ : ∃ x, xs[i]? = some x))
  have HLN := Lib.hid hln
  have HF := Lib.hid hf
  have HZ := Lib.hid hz
  have HBAD := Lib.hid (rightF_bad xs none)
  have HGOOD := Lib.hid (rightF_good xs none)
  have HRE : Hid (rightB xs = rightF none xs) := Lib.hid rfl
  generalize rightF none xs = res at *
  generalize rightB xs = res2 at *
  have HA : Hid (0 < n → ∃ b off, A = some ⟨b, off, none⟩ ∧ b < B) := Lib.hid (fun h => HZ.out.open h)
  clear hz hln hf
  go_enter Try.func14, Try.ntmps14
  go_wp2
  go_loopw [7] (fun i wr => ∃ k : Nat, k ≤ n ∧ i = .int .i64 k ∧ Hid (Below w.heap.size w wr) ∧ Hid (∀ j x, j < k → xs[j]? = some x → okB x = true ∧ ∀ p, (if j = 0 then none else xs[j - 1]?) = some p → nextB p x = true)) (fun i _ => n - (intOf i).toNat)
  case atStart => exact ⟨0, by omega, rfl, Lib.hid (Below.refl _ _), Lib.hid (fun j x hj => absurd hj (Nat.not_lt_zero _))⟩
  case round =>
    obtain ⟨k, hk, rfl, HB, HG⟩ := hrel
    have hsz := HB.out.size
    by_cases hlt : k < n
    · obtain ⟨x, hx⟩ := HX.out k hlt
      obtain ⟨b, off, hAe, hb⟩ := HA.out (by omega)
      subst hAe
      have hcs := (HZ.out.below (HB.out.mono hB)).at_ fB_len hx
      have xc0 : wr.cell? ⟨b, off + k * 2, none⟩ = some (.int .i64 x.a) := hcs 0 _ rfl
      have xc1 : wr.cell? ⟨b, off + k * 2 + 1, none⟩ = some (.int .i64 x.o) := hcs 1 _ rfl
      have HX0 := Lib.hid hx
      have HBA := Lib.hid (HB.out.alloc hsz (.cells #[.int .i64 x.a, .int .i64 x.o] 30))
      have hxf := HF.out x (List.mem_of_getElem? hx)
      have rgx0 : ∀ d os, (grow (redrawn (wr.alloc (.cells #[.int .i64 x.a, .int .i64 x.o] 30)) d) os).cell? ⟨wr.heap.size, 0, none⟩ = some (.int .i64 x.a) := fun d os => cell_regrown (by simp [go_sem]) d os
      have rgx1 : ∀ d os, (grow (redrawn (wr.alloc (.cells #[.int .i64 x.a, .int .i64 x.o] 30)) d) os).cell? ⟨wr.heap.size, 1, none⟩ = some (.int .i64 x.o) := fun d os => cell_regrown (by simp [go_sem]) d os
      have hfit : ∀ {d : Nat} {os : Array Obj}, Calls Try.prog 36 #[.agg #[.int .i64 x.a, .int .i64 x.o]] (grow (redrawn (wr.alloc (.cells #[.int .i64 x.a, .int .i64 x.o] 30)) d) os) fun e w' => e = .returned (.bool (okB x)) ∧ Below (grow (redrawn (wr.alloc (.cells #[.int .i64 x.a, .int .i64 x.o] 30)) d) os).heap.size (grow (redrawn (wr.alloc (.cells #[.int .i64 x.a, .int .i64 x.o] 30)) d) os) w' := fun {d os} => fits_any x hxf _
      clear hcs hx
      cases hok : okB x with
      | false =>
        rw [hok] at hfit
        have HOK := Lib.hid hok
        clear hok hxf
        go_wp2
        refine wp_region_quiet_below (by kernel_rfl) (by kernel_rfl) ?_
        repeat (go_big_quiet_step (first | (go_at_call 36; exact Calls.regrown_of hfit)))
        refine wpQuiet_nil ?_
        intro w2 hw'
        obtain ⟨p', hw'⟩ := hw'
        have hb2 : Below (wr.alloc (.cells #[.int .i64 x.a, .int .i64 x.o] 30)).heap.size (wr.alloc (.cells #[.int .i64 x.a, .int .i64 x.o] 30)) w2 := by rw [hw']; exact below_regrown _ _ _
        clear hw' p'
        have HB2 := Lib.hid (HBA.out.trans (hb2.mono (by simp; omega)))
        clear rgx0 rgx1 hfit
        clear hb2
        go_wp2
        go_ret
        exact ⟨ret_b (by rw [HRE.out, HBAD.out k x HX0.out (.inl HOK.out)]), HB2.out⟩
      | true =>
        rw [hok] at hfit
        have HOK := Lib.hid hok
        have HO6 : Hid (0 ≤ x.a ∧ x.a < 64 ∧ 0 ≤ x.o ∧ x.o ≤ 6) := Lib.hid (by
          obtain ⟨h1, h2, _, h4⟩ := okB_cases hok
          have := szO_pos x.o
          refine ⟨h1, by omega, by omega, by omega⟩)
        clear hok hxf
        cases k with
        | zero =>
          rw [Nat.zero_mul, Nat.add_zero] at xc0 xc1
          go_wp2
          refine wp_region_quiet_below (by kernel_rfl) (by kernel_rfl) ?_
          repeat (go_big_quiet_step (first | (go_at_call 36; exact Calls.regrown_of hfit)))
          refine wpQuiet_nil ?_
          intro w2 hw'
          obtain ⟨p', hw'⟩ := hw'
          have hb2 : Below (wr.alloc (.cells #[.int .i64 x.a, .int .i64 x.o] 30)).heap.size (wr.alloc (.cells #[.int .i64 x.a, .int .i64 x.o] 30)) w2 := by rw [hw']; exact below_regrown _ _ _
          clear hw' p'
          have HB2 := Lib.hid (HBA.out.trans (hb2.mono (by simp; omega)))
          clear rgx0 rgx1 hfit
          obtain ⟨hb2c, _⟩ := bcell hb2
          have bx0 : w2.cell? ⟨wr.heap.size, 0, none⟩ = some (.int .i64 x.a) := by rw [hb2c _ _ (by simp)]; simp [go_sem]
          have bx1 : w2.cell? ⟨wr.heap.size, 1, none⟩ = some (.int .i64 x.o) := by rw [hb2c _ _ (by simp)]; simp [go_sem]
          clear hb2c hb2
          go_wp2
          go_quiet (fail)
          go_wp2
          go_roundw
          case rel => exact ⟨0 + 1, by omega, by go_num, Lib.hid (HB2.out.trans (below_drewN _ _ _)), Lib.hid (fun j y hj hy => by
            by_cases e : j = 0
            · subst e
              rw [HX0.out] at hy; cases hy
              exact ⟨HOK.out, fun q hq => by simp at hq⟩
            · exact HG.out j y (by omega) hy)⟩
          case measure => simp [intOf]; omega
        | succ m =>
          obtain ⟨p, hp⟩ := HX.out m (by omega)
          have hps := (HZ.out.below (HB.out.mono hB)).at_ fB_len hp
          have pc0' : wr.cell? ⟨b, off + m * 2, none⟩ = some (.int .i64 p.a) := hps 0 _ rfl
          have pc1' : wr.cell? ⟨b, off + m * 2 + 1, none⟩ = some (.int .i64 p.o) := hps 1 _ rfl
          have rgp0 : ∀ d os, (grow (redrawn (wr.alloc (.cells #[.int .i64 x.a, .int .i64 x.o] 30)) d) os).cell? ⟨b, off + m * 2, none⟩ = some (.int .i64 p.a) := fun d os => cell_regrown (Lib.cell?_alloc_some _ pc0') d os
          have rgp1 : ∀ d os, (grow (redrawn (wr.alloc (.cells #[.int .i64 x.a, .int .i64 x.o] 30)) d) os).cell? ⟨b, off + m * 2 + 1, none⟩ = some (.int .i64 p.o) := fun d os => cell_regrown (Lib.cell?_alloc_some _ pc1') d os
          have HP0 := Lib.hid hp
          obtain ⟨p1, p2, p3, p4⟩ := okB_cases (HG.out m p (by omega) hp).1
          have po1 : 0 ≤ p.o := by omega
          have po2 : p.o ≤ 6 := by omega
          have hsp := size_any p.o po1 po2
          obtain ⟨s1, s2⟩ := szO_le po1 po2
          have hbw : b < wr.heap.size := by omega
          have hm0 : (0 : Int) < (m : Int) + 1 := by omega
          have hmn : (m : Int) < (n : Int) := by omega
          have hm1 : m < n := by omega
          have hm2 : (0 : Int) ≤ (m : Int) := by omega
          have hmw : IntKind.i64.wrap (m : Int) = (m : Int) := by rw [IntKind.wrap_i64]; omega
          have HNQ : Hid (nextB p x = (!(decide (x.a < p.a + szO p.o)) && !(decide (x.o < 6) && eqB p ⟨budA x.a x.o, x.o⟩))) := Lib.hid rfl
          clear hps hp p3 p4
          generalize szO p.o = sp at *
          by_cases h4 : x.a < p.a + sp
          · have HNX : Hid (nextB p x = false) := Lib.hid (by rw [HNQ.out]; simp [h4])
            clear HNQ
            go_wp2
            refine wp_region_quiet_below (by kernel_rfl) (by kernel_rfl) ?_
            repeat (go_big_quiet_step (first | (go_at_call 36; exact Calls.regrown_of hfit) | (go_at_call 33; exact regrown_same hsp)))
            refine wpQuiet_nil ?_
            intro w2 hw'
            obtain ⟨p', hw'⟩ := hw'
            have hb2 : Below (wr.alloc (.cells #[.int .i64 x.a, .int .i64 x.o] 30)).heap.size (wr.alloc (.cells #[.int .i64 x.a, .int .i64 x.o] 30)) w2 := by rw [hw']; exact below_regrown _ _ _
            clear hw' p'
            have HB2 := Lib.hid (HBA.out.trans (hb2.mono (by simp; omega)))
            clear rgx0 rgx1 hfit rgp0 rgp1 hsp
            clear hb2
            go_wp2
            go_ret
            exact ⟨ret_b (by rw [HRE.out, HBAD.out (m + 1) x HX0.out (.inr ⟨p, by rw [if_neg (by omega), Nat.add_sub_cancel]; exact HP0.out, HNX.out⟩)]), HB2.out⟩
          · have HN4 : Hid (decide (x.a < p.a + sp) = false) := Lib.hid (decide_eq_false (by omega))
            have hd4 : decide (x.a < p.a + sp) = false := decide_eq_false (by omega)
            go_wp2
            refine wp_region_quiet_below (by kernel_rfl) (by kernel_rfl) ?_
            repeat (go_big_quiet_step (first | (go_at_call 36; exact Calls.regrown_of hfit) | (go_at_call 33; exact regrown_same hsp)))
            refine wpQuiet_nil ?_
            intro w2 hw'
            obtain ⟨p', hw'⟩ := hw'
            have hb2 : Below (wr.alloc (.cells #[.int .i64 x.a, .int .i64 x.o] 30)).heap.size (wr.alloc (.cells #[.int .i64 x.a, .int .i64 x.o] 30)) w2 := by rw [hw']; exact below_regrown _ _ _
            clear hw' p'
            have HB2 := Lib.hid (HBA.out.trans (hb2.mono (by simp; omega)))
            clear rgx0 rgx1 hfit rgp0 rgp1 hsp
            obtain ⟨hb2c, _⟩ := bcell hb2
            have bx0 : w2.cell? ⟨wr.heap.size, 0, none⟩ = some (.int .i64 x.a) := by rw [hb2c _ _ (by simp)]; simp [go_sem]
            have bx1 : w2.cell? ⟨wr.heap.size, 1, none⟩ = some (.int .i64 x.o) := by rw [hb2c _ _ (by simp)]; simp [go_sem]
            have pc0 : w2.cell? ⟨b, off + m * 2, none⟩ = some (.int .i64 p.a) := by rw [hb2c _ _ (by simp; omega)]; exact (Lib.cell?_alloc_some _ pc0')
            have pc1 : w2.cell? ⟨b, off + m * 2 + 1, none⟩ = some (.int .i64 p.o) := by rw [hb2c _ _ (by simp; omega)]; exact (Lib.cell?_alloc_some _ pc1')
            clear hb2c hb2
            clear hd4 h4 s1 s2 p1 p2
            by_cases h6 : x.o < 6
            · obtain ⟨q1, q2, q3, q4⟩ := HO6.out
              have hsx := size_any x.o q3 q4
              have hxor := xor_bud q1 q2 q3 h6
              generalize szO x.o = sx at *
              have heq : ∀ w, (Op.equalIn 10000 30 (.agg #[.int .i64 p.a, .int .i64 p.o]) (.agg #[.int .i64 (budA x.a x.o), .int .i64 x.o])).run Try.prog w = .ok (eqB p ⟨budA x.a x.o, x.o⟩) w := run_eqB p ⟨budA x.a x.o, x.o⟩
              generalize budA x.a x.o = bd at *
              cases hq : eqB p ⟨bd, x.o⟩ with
              | true =>
                rw [hq] at heq
                have HNX : Hid (nextB p x = false) := Lib.hid (by rw [HNQ.out, HN4.out, hq]; simp [h6])
                clear HNQ HN4 hq q1 q2 q3 q4
                go_wp2
                go_quiet (first | (go_at_call 33; exact quiet_same hsx))
                go_wp2
                go_ret
                exact ⟨ret_b (by rw [HRE.out, HBAD.out (m + 1) x HX0.out (.inr ⟨p, by rw [if_neg (by omega), Nat.add_sub_cancel]; exact HP0.out, HNX.out⟩)]), HB2.out.trans (below_drewN _ _ _)⟩
              | false =>
                rw [hq] at heq
                have HNX : Hid (nextB p x = true) := Lib.hid (by rw [HNQ.out, HN4.out, hq]; simp)
                clear HNQ HN4 hq q1 q2 q3 q4
                go_wp2
                go_quiet (first | (go_at_call 33; exact quiet_same hsx))
                clear hmw
                go_wp2
                go_roundw
                case rel => exact ⟨m + 1 + 1, by omega, by go_num, Lib.hid (HB2.out.trans (below_drewN _ _ _)), Lib.hid (fun j y hj hy => by
                  by_cases e : j = m + 1
                  · subst e
                    rw [HX0.out] at hy; cases hy
                    exact ⟨HOK.out, fun q hq => by rw [if_neg (by omega), Nat.add_sub_cancel, HP0.out] at hq; cases hq; exact HNX.out⟩
                  · exact HG.out j y (by omega) hy)⟩
                case measure => simp [intOf]; omega
            · have HNX : Hid (nextB p x = true) := Lib.hid (by rw [HNQ.out, HN4.out]; simp [h6])
              have hd6 : decide (x.o < 6) = false := decide_eq_false h6
              clear HNQ HN4
              go_wp2
              go_quiet (fail)
              clear hmw
              go_wp2
              go_roundw
              case rel => exact ⟨m + 1 + 1, by omega, by go_num, Lib.hid (HB2.out.trans (below_drewN _ _ _)), Lib.hid (fun j y hj hy => by
                by_cases e : j = m + 1
                · subst e
                  rw [HX0.out] at hy; cases hy
                  exact ⟨HOK.out, fun q hq => by rw [if_neg (by omega), Nat.add_sub_cancel, HP0.out] at hq; cases hq; exact HNX.out⟩
                · exact HG.out j y (by omega) hy)⟩
              case measure => simp [intOf]; omega
    · have hkn : n = k := by omega
      subst hkn
      go_wp2
      go_ret
      exact ⟨ret_b (by rw [HRE.out, HGOOD.out (fun j x hj hx => HG.out j x (by rw [HLN.out] at hj; exact hj) hx)]), HB.out⟩
end Go.Proofs.Ytnbhchfpfbbngaa
