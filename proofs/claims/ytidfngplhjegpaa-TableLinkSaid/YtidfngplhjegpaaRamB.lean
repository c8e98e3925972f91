/- The document's APut: what it answers. -/
import Derived.Test.YtidfngplhjegpaaRamA
import Derived.Test.YtidfngplhjegpaaRamS
import Derived.Test.YtidfngplhjegpaaText
namespace Go.Proofs.Ytidfngplhjegpaa
open Go.RowKit
set_option linter.unusedVariables false

theorem putN_len (zs : List Int) (a : Nat) (v : Int) : ∀ n, (putN zs a v n).length = zs.length
  | 0 => rfl
  | n + 1 => by simp [putN, putN_len zs a v n]
theorem putN_at (zs : List Int) (a : Nat) (v : Int) (k : Nat) (hk : k < zs.length) : ∀ n, (putN zs a v n).getD k 0 = if a ≤ k ∧ k < a + n then v / ((256 ^ (k - a) : Nat) : Int) % 256 else zs.getD k 0
  | 0 => by rw [if_neg (by omega)]; rfl
  | n + 1 => by
    have ih := putN_at zs a v k hk n
    by_cases e : k = a + n
    · subst e
      rw [if_pos (by omega), show a + n - a = n by omega]
      simp [putN, List.getD, putN_len, hk]
    · have : (putN zs a v (n + 1)).getD k 0 = (putN zs a v n).getD k 0 := by
        simp [putN, List.getD, List.getElem?_set_ne (show a + n ≠ k by omega)]
      rw [this, ih]
      by_cases h : a ≤ k ∧ k < a + n
      · rw [if_pos h, if_pos (by omega)]
      · rw [if_neg h, if_neg (by omega)]
/-- What is left of v behind so many bytes. -/
def xq (v : Int) (j : Nat) : Int := v % 18446744073709551616 / ((256 ^ j : Nat) : Int)
theorem xq_0 (v : Int) : xq v 0 = v % 18446744073709551616 := by unfold xq; simp
theorem xq_succ (v : Int) (j : Nat) : xq v j / 256 = xq v (j + 1) := by
  unfold xq
  rw [Int.ediv_ediv_of_nonneg (Int.natCast_nonneg _), Nat.pow_succ]; simp
theorem xq_lo (v : Int) (j : Nat) : 0 ≤ xq v j := by
  unfold xq
  exact Int.ediv_nonneg (by omega) (Int.natCast_nonneg _)
theorem xq_hi (v : Int) (j : Nat) : xq v j < 18446744073709551616 := by
  unfold xq
  have h1 : v % 18446744073709551616 / ((256 ^ j : Nat) : Int) ≤ v % 18446744073709551616 := Int.ediv_le_self _ (by omega)
  omega
theorem u64_in {y : Int} (h0 : 0 ≤ y) (h1 : y < 18446744073709551616) : IntKind.u64.wrap y = y := by
  show y % 18446744073709551616 = y
  omega
theorem xq_byte (v : Int) (j : Nat) (hj : j < 4) : xq v j % 256 = v / ((256 ^ j : Nat) : Int) % 256 := by
  unfold xq
  have : j = 0 ∨ j = 1 ∨ j = 2 ∨ j = 3 := by omega
  rcases this with rfl | rfl | rfl | rfl <;> simp <;> omega

set_option maxHeartbeats 4000000 in
theorem aPut_any (A : Option Addr) (len c : Nat) (zs : List Int) (p n v : Int) (w : World) (B : Nat) (hz : Row .u8 w B A len zs) (hb : Bytes zs) (hB : B ≤ w.heap.size) (hn : len ≤ 140737488355328) (hp9 : p ≤ 9223372036854775807) :
    Calls Try.prog 18 #[.slice A len c, .int .i64 p, .int .i64 n, .int .i64 v] w (TPut 5 zs p n v w) := by
  have hl := hz.1
  have HL := Lib.hid hl; have HZ := Lib.hid hz; have HB := Lib.hid hb
  clear hl hz hb
  by_cases h : n < 1 ∨ 4 < n ∨ p < 0 ∨ (len : Int) < p + n
  · have e2 : rgetE zs p n = 2 := by unfold rgetE; rw [if_pos (by rw [HL.out]; exact h)]
    have e3 : rputL zs p n v = [] := by unfold rputL; rw [if_neg (by rw [e2]; decide)]
    have H := Lib.hid (And.intro e2 e3)
    clear e2 e3 h
    go_enter Try.func18, Try.ntmps18
    go_wp2_with fail
    refine (aget_any A len c zs p n w B HZ.out HB.out hn hp9).mono ?_
    rintro e w1 ⟨rfl, hw1⟩
    rw [hw1, H.out.1]
    clear hw1
    go_wp2
    go_ret2
    exact ⟨none, 0, 0, by rw [H.out.1]; rfl, by rw [H.out.2]; exact ⟨rfl, by omega, by simp, fun h => absurd h (by omega)⟩, Below.refl _ _⟩
  · obtain ⟨a, rfl⟩ := Int.eq_ofNat_of_zero_le (show 0 ≤ p by omega)
    obtain ⟨m, rfl⟩ := Int.eq_ofNat_of_zero_le (show 0 ≤ n by omega)
    have e2 : rgetE zs a m = 0 := by unfold rgetE; rw [if_neg (by rw [HL.out]; exact h)]
    have e3 : rputL zs a m v = putN zs a v m := by unfold rputL; rw [if_pos e2, Int.toNat_natCast, Int.toNat_natCast]
    have H := Lib.hid (And.intro e2 e3)
    have n4 : m ≤ 4 := by omega
    have ha : a + m ≤ len := by omega
    obtain ⟨b, off, rfl, hbB, hcell⟩ := HZ.out.2.2 (show 0 < len by omega)
    have HC := Lib.hid hcell
    clear e2 e3 h hcell
    obtain ⟨i0, hi, hz0, hz1, hz2⟩ := info_parts u8info
    go_enter Try.func18, Try.ntmps18
    go_wp2_with fail
    refine (aget_any _ len c zs a m w B HZ.out HB.out hn hp9).mono ?_
    rintro e w1 ⟨rfl, hw1⟩
    rw [hw1, H.out.1]
    clear hw1
    go_wp2
    go_loopw [12, 13, 14, 15, 30] (fun o x _ _ i wr => ∃ k : Nat, k ≤ len ∧ i = .int .i64 k ∧ x = .int .u64 (xq v (min k (a + m) - a)) ∧ wr.ownsRow w.heap.size 5 1 o k (((putN zs a v m).take k).map (Value.int .u8)) ∧ Below w.heap.size w wr) (fun _ _ _ _ i _ => len - (intOf i).toNat)
    case atStart => exact ⟨0, by omega, rfl, by rw [show min 0 (a + m) - a = 0 by omega, xq_0]; rfl, by simpa using World.ownsRow_nil _ _ _ _, Below.refl _ _⟩
    case round =>
      obtain ⟨k, hk, rfl, rfl, hown, hbw⟩ := hrel
      have HO := Lib.hid hown
      clear hown
      by_cases hlt : k < len
      · obtain ⟨b0, b1⟩ := HB.out k
        have hck : wr.cell? ⟨b, off + k, none⟩ = some (.int .u8 (zs.getD k 0)) := ((hbw.mono hB).cell (p := ⟨b, off + k, none⟩) hbB).trans (HC.out k hlt)
        have hat := putN_at zs a v k (by rw [HL.out]; exact hlt) m
        by_cases g1 : a ≤ k
        · by_cases g2 : k < a + m
          · rw [if_pos ⟨g1, g2⟩] at hat
            have hq0 : min k (a + m) - a = k - a := by omega
            have hq1 : min (k + 1) (a + m) - a = (k - a) + 1 := by omega
            have hby := xq_byte v (k - a) (by omega)
            have hsu := xq_succ v (k - a)
            have hlo := xq_lo v (k - a)
            have hhi := xq_hi v (k - a)
            have HX := Lib.hid (hat.trans hby.symm)
            have HS := Lib.hid hsu
            have HQ := Lib.hid hq1
            have HH := Lib.hid hhi
            rw [hq0]
            clear hq0 hq1 hby hsu hhi hat
            generalize xq v (k - a) = x at *
            go_wp2_with (at_builtin; refine wpList_append_own _ rfl _ _ 22 rfl w.heap.size 5 i0 (.int .u8 0) 1 1 Try.underlying22 hi hz0 hz1 hz2 rfl (by decide) _ _ _ rfl (HO.out.alloc _) ⟨wr.heap.size, 0, none⟩ 1 1 [.int .u8 ((putN zs a v m).getD k 0)] rfl ?c1A ?c2A ?c3A ?c4A ?c5A ?c6A ?_)
            try (case c1A => rfl)
            case c2A =>
              intro j u hj
              have hj0 : j = 0 := by
                have := (List.getElem?_eq_some_iff.1 hj).1
                simp at this
                exact this
              subst hj0
              have hu : u = .int .u8 ((putN zs a v m).getD k 0) := Option.some.inj hj.symm
              subst hu
              rw [Addr.add_zero_lit, World.cell?_alloc_at _ _ _ _ rfl]
              refine congrArg some (congrArg (Value.int .u8) ?_)
              exact HX.out.symm
            case c3A => first | rfl | (intro u hu; simp at hu; subst hu; rfl)
            case c4A => unfold maxLen; omega
            case c5A => omega
            case c6A => have := hbw.size; simp; omega
            intro v' w3 hown hgrow _
            have HO3 := Lib.hid hown
            clear hown
            go_wp2
            go_roundw
            case rel => exact ⟨k + 1, by omega, by go_num, by rw [HQ.out, ← HS.out, Int.tdiv_eq_ediv_of_nonneg hlo, u64_in (by omega) (by have := HH.out; omega)], by rw [take_next (by rw [putN_len, HL.out]; exact hlt), List.map_append, List.map_take]; exact HO3.out, (hbw.alloc hbw.size _).grown hgrow (by have := hbw.size; simp; omega) (own_from HO.out)⟩
            case measure => simp [intOf]; omega
          · rw [if_neg (by omega)] at hat
            have g3 : a + m ≤ k := by omega
            have hq0 : min k (a + m) - a = m := by omega
            have hq1 : min (k + 1) (a + m) - a = m := by omega
            have HX := Lib.hid hat
            have HQ := Lib.hid hq1
            rw [hq0]
            clear hq0 hq1 hat
            go_wp2_with (at_builtin; refine wpList_append_own _ rfl _ _ 22 rfl w.heap.size 5 i0 (.int .u8 0) 1 1 Try.underlying22 hi hz0 hz1 hz2 rfl (by decide) _ _ _ rfl (HO.out.alloc _) ⟨wr.heap.size, 0, none⟩ 1 1 [.int .u8 ((putN zs a v m).getD k 0)] rfl ?c1B ?c2B ?c3B ?c4B ?c5B ?c6B ?_)
            try (case c1B => rfl)
            case c2B =>
              intro j u hj
              have hj0 : j = 0 := by
                have := (List.getElem?_eq_some_iff.1 hj).1
                simp at this
                exact this
              subst hj0
              have hu : u = .int .u8 ((putN zs a v m).getD k 0) := Option.some.inj hj.symm
              subst hu
              rw [Addr.add_zero_lit, World.cell?_alloc_at _ _ _ _ rfl]
              refine congrArg some (congrArg (Value.int .u8) ?_)
              exact HX.out.symm
            case c3B => first | rfl | (intro u hu; simp at hu; subst hu; rfl)
            case c4B => unfold maxLen; omega
            case c5B => omega
            case c6B => have := hbw.size; simp; omega
            intro v' w3 hown hgrow _
            have HO3 := Lib.hid hown
            clear hown
            go_wp2
            go_roundw
            case rel => exact ⟨k + 1, by omega, by go_num, by rw [HQ.out], by rw [take_next (by rw [putN_len, HL.out]; exact hlt), List.map_append, List.map_take]; exact HO3.out, (hbw.alloc hbw.size _).grown hgrow (by have := hbw.size; simp; omega) (own_from HO.out)⟩
            case measure => simp [intOf]; omega
        · rw [if_neg (by omega)] at hat
          have g3 : k < a := by omega
          have hq0 : min k (a + m) - a = 0 := by omega
          have hq1 : min (k + 1) (a + m) - a = 0 := by omega
          have HX := Lib.hid hat
          have HQ := Lib.hid hq1
          rw [hq0]
          clear hq0 hq1 hat
          go_wp2_with (at_builtin; refine wpList_append_own _ rfl _ _ 22 rfl w.heap.size 5 i0 (.int .u8 0) 1 1 Try.underlying22 hi hz0 hz1 hz2 rfl (by decide) _ _ _ rfl (HO.out.alloc _) ⟨wr.heap.size, 0, none⟩ 1 1 [.int .u8 ((putN zs a v m).getD k 0)] rfl ?c1C ?c2C ?c3C ?c4C ?c5C ?c6C ?_)
          try (case c1C => rfl)
          case c2C =>
            intro j u hj
            have hj0 : j = 0 := by
              have := (List.getElem?_eq_some_iff.1 hj).1
              simp at this
              exact this
            subst hj0
            have hu : u = .int .u8 ((putN zs a v m).getD k 0) := Option.some.inj hj.symm
            subst hu
            rw [Addr.add_zero_lit, World.cell?_alloc_at _ _ _ _ rfl]
            refine congrArg some (congrArg (Value.int .u8) ?_)
            exact HX.out.symm
          case c3C => first | rfl | (intro u hu; simp at hu; subst hu; rfl)
          case c4C => unfold maxLen; omega
          case c5C => omega
          case c6C => have := hbw.size; simp; omega
          intro v' w3 hown hgrow _
          have HO3 := Lib.hid hown
          clear hown
          go_wp2
          go_roundw
          case rel => exact ⟨k + 1, by omega, by go_num, by rw [HQ.out], by rw [take_next (by rw [putN_len, HL.out]; exact hlt), List.map_append, List.map_take]; exact HO3.out, (hbw.alloc hbw.size _).grown hgrow (by have := hbw.size; simp; omega) (own_from HO.out)⟩
          case measure => simp [intOf]; omega
      · have hkl : k = len := by omega
        subst hkl
        obtain ⟨A', c', e9, ho⟩ := Own.of_row (k := .u8) (v := u12) (zs := putN zs a v m) (by have h9 := HO.out; rw [List.take_of_length_le (by rw [putN_len, HL.out]; omega)] at h9; exact h9)
        have E9 := Lib.hid e9
        clear e9
        go_wp2
        go_ret2
        exact ⟨A', _, c', by rw [H.out.1, E9.out]; rfl, by rw [H.out.2]; exact ho, hbw⟩
end Go.Proofs.Ytidfngplhjegpaa
