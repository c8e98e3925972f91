/- The document's CSet, and tags.New: what they answer. -/
import Derived.Test.YtokpodmefnmmcaaTagsT
namespace Go.Proofs.Ytokpodmefnmmcaa
open Go.RowKit

theorem take_next {zs : List Int} {k : Nat} (h : k < zs.length) : zs.take (k + 1) = zs.take k ++ [zs.getD k 0] := by
  rw [List.take_succ_eq_append_getElem h, getD_get0 h]
theorem tgetV_lo {zs : List Int} {k : Nat} (h : k < zs.length) : tgetV zs (2 * (k : Int)) = zs.getD k 0 % 16 := by
  unfold tgetV
  rw [if_neg (by omega), if_pos (by omega), show (2 * (k : Int) / 2).toNat = k by omega]
theorem tgetV_hi {zs : List Int} {k : Nat} (h : k < zs.length) : tgetV zs (2 * (k : Int) + 1) = zs.getD k 0 / 16 := by
  unfold tgetV
  rw [if_neg (by omega), if_neg (by omega), show ((2 * (k : Int) + 1) / 2).toNat = k by omega]

theorem own_from {w : World} {base : Nat} {e : TypeId} {size n : Nat} {v : Value} {xs : List Value} (h : w.ownsRow base e size v n xs) : ∀ k, v.ownBlock = some k → base ≤ k := by
  intro k hk
  rcases h.2 with ⟨rfl, _⟩ | ⟨g, cap, cur, rfl, hg, _⟩
  · simp [Value.ownBlock] at hk
  · simp [Value.ownBlock] at hk; omega
theorem Addr.add_zero_lit (b : Nat) : (Addr.add ⟨b, 0, none⟩ 0) = ⟨b, 0, none⟩ := by rw [Addr.add_lit]
set_option maxHeartbeats 4000000 in
theorem cset_any (A : Option Addr) (n c : Nat) (zs : List Int) (f m tag : Int) (w : World) (B : Nat) (hz : Row .u8 w B A n zs) (hb : Bytes zs) (hB : B ≤ w.heap.size) (hn : n ≤ 140737488355328) (fi : f ≤ 9223372036854775807) (mi : m ≤ 9223372036854775807) :
    Calls Try.prog 37 #[.slice A n c, .int .i64 f, .int .i64 m, .int .i64 tag] w (TSet 5 zs f m tag w) := by
  have hl := hz.1
  have HL := Lib.hid hl; have HZ := Lib.hid hz; have HB := Lib.hid hb
  clear hl hz hb
  by_cases h : tag < 0 ∨ 15 < tag ∨ f < 0 ∨ 2 * (n : Int) < f ∨ m < 0 ∨ 2 * (n : Int) - f < m
  · have hno := tsetE_no (zs := zs) (f := f) (m := m) (tag := tag) (by rw [HL.out]; omega)
    have H := Lib.hid hno
    clear hno
    rcases h with h | h | h | h | h | h
    all_goals
      go_enter Try.func37, Try.ntmps37
      go_wp2
      all_goals go_ret2
      all_goals exact ⟨none, 0, 0, by rw [H.out.1]; rfl, by rw [H.out.2]; exact ⟨rfl, by omega, by simp, fun h => absurd h (by omega)⟩, Below.refl _ _⟩
  · have hyes := tsetE_yes (zs := zs) (f := f) (m := m) (tag := tag) (by rw [HL.out]; omega)
    have H := Lib.hid hyes
    clear hyes
    have a1 : 0 ≤ tag := by omega
    have a2 : tag ≤ 15 := by omega
    have a3 : 0 ≤ f := by omega
    have a4 : 0 ≤ m := by omega
    have a5 : f ≤ 2 * (n : Int) := by omega
    have a6 : m ≤ 2 * (n : Int) - f := by omega
    clear h
    obtain ⟨i0, hi, hz0, hz1, hz2⟩ := info_parts u8info
    go_enter Try.func37, Try.ntmps37
    go_wp2
    go_loopw [11, 48] (fun v i wr => ∃ k : Nat, k ≤ n ∧ i = .int .i64 k ∧ wr.ownsRow w.heap.size 5 1 v k (((tsetP zs f m tag).take k).map (Value.int .u8)) ∧ Below w.heap.size w wr) (fun _ i _ => n - (intOf i).toNat)
    case atStart => exact ⟨0, by omega, rfl, by simpa using World.ownsRow_nil _ _ _ _, Below.refl _ _⟩
    case round =>
      obtain ⟨k, hk, rfl, hown, hbw⟩ := hrel
      have HO := Lib.hid hown
      clear hown
      by_cases hlt : k < n
      · have hv1 := tgetV_lo (zs := zs) (k := k) (by rw [HL.out]; exact hlt)
        have hv2 := tgetV_hi (zs := zs) (k := k) (by rw [HL.out]; exact hlt)
        obtain ⟨b0, b1⟩ := HB.out k
        have hcase : ((f ≤ 2 * (k : Int) ∧ 2 * (k : Int) < f + m) ∧ (f ≤ 2 * (k : Int) + 1 ∧ 2 * (k : Int) + 1 < f + m)) ∨ ((f ≤ 2 * (k : Int) ∧ 2 * (k : Int) < f + m) ∧ (f ≤ 2 * (k : Int) + 1 ∧ f + m ≤ 2 * (k : Int) + 1)) ∨ ((2 * (k : Int) < f) ∧ (2 * (k : Int) + 1 < f)) ∨ ((2 * (k : Int) < f) ∧ (f ≤ 2 * (k : Int) + 1 ∧ 2 * (k : Int) + 1 < f + m)) ∨ ((2 * (k : Int) < f) ∧ (f ≤ 2 * (k : Int) + 1 ∧ f + m ≤ 2 * (k : Int) + 1)) ∨ ((f ≤ 2 * (k : Int) ∧ f + m ≤ 2 * (k : Int)) ∧ (f ≤ 2 * (k : Int) + 1 ∧ f + m ≤ 2 * (k : Int) + 1)) := by omega
        rcases hcase with ⟨g1, g2⟩ | ⟨g1, g2⟩ | ⟨g1, g2⟩ | ⟨g1, g2⟩ | ⟨g1, g2⟩ | ⟨g1, g2⟩
        · have hx : (tsetP zs f m tag).getD k 0 = 16 * (tag) + (tag) := by
            rw [tsetP_at (by rw [HL.out]; exact hlt)]; unfold hvLo hvHi
            rw [if_pos (by omega), if_pos (by omega)]
          have HX := Lib.hid hx
          clear hx
          have b2 : 0 ≤ zs[k]?.getD 0 := b0
          have b3 : zs[k]?.getD 0 < 256 := b1
          obtain ⟨g1a, g1b⟩ := g1
          obtain ⟨g2a, g2b⟩ := g2
          go_wp2_with (first
            | (at_builtin; refine wpList_append_own _ rfl _ _ 55 rfl w.heap.size 5 i0 (.int .u8 0) 1 1 Try.underlying55 hi hz0 hz1 hz2 rfl (by decide) _ _ _ rfl (HO.out.alloc _) ⟨wr.heap.size, 0, none⟩ 1 1 [.int .u8 ((tsetP zs f m tag).getD k 0)] rfl ?c1TT ?c2TT ?c3TT ?c4TT ?c5TT ?c6TT ?_)
            | (go_at_call 35; refine (cget_any A n c zs _ _ B (HZ.out.below (hbw.mono hB)) HB.out (by have := hbw.size; omega) hn).mono ?_; rintro e w2 ⟨rfl, hw2⟩; rw [hw2]; clear hw2))
          try (case c1TT => rfl)
          case c2TT =>
            intro j u hj
            have hj0 : j = 0 := by
              have := (List.getElem?_eq_some_iff.1 hj).1
              simp at this
              exact this
            subst hj0
            have hu : u = .int .u8 ((tsetP zs f m tag).getD k 0) := Option.some.inj hj.symm
            subst hu
            have hx := HX.out
            have b4 := b0
            have b5 := b1
            first
              | (rw [Addr.add_zero_lit, World.cell?_alloc_at _ _ _ _ rfl]; refine congrArg some (congrArg (Value.int .u8) ?_))
              | (refine congrArg some (congrArg (Value.int .u8) ?_))
            refine Eq.trans ?_ hx.symm
            clear hx HX
            change 0 ≤ zs.getD k 0 at b2
            first
              | rfl
              | (change _ = 16 * (tag) + (tag); generalize zs.getD k 0 = b at *; go_arith)
          case c3TT => first | rfl | (intro u hu; simp at hu; subst hu; rfl)
          case c4TT => unfold maxLen; omega
          case c5TT => omega
          case c6TT => have := hbw.size; simp; omega
          intro v' w3 hown hgrow _
          have HO3 := Lib.hid hown
          clear hown
          go_wp2
          go_roundw
          case rel => exact ⟨k + 1, by omega, by go_num, by rw [take_next (by rw [tsetP_len, HL.out]; exact hlt), List.map_append, List.map_take]; exact HO3.out, (hbw.alloc hbw.size _).grown hgrow (by have := hbw.size; simp; omega) (own_from HO.out)⟩
          case measure => simp [intOf]; omega
        · have hx : (tsetP zs f m tag).getD k 0 = 16 * (zs.getD k 0 / 16) + (tag) := by
            rw [tsetP_at (by rw [HL.out]; exact hlt)]; unfold hvLo hvHi
            rw [if_neg (by omega), if_pos (by omega)]
          have HX := Lib.hid hx
          clear hx
          have b2 : 0 ≤ zs[k]?.getD 0 := b0
          have b3 : zs[k]?.getD 0 < 256 := b1
          obtain ⟨g1a, g1b⟩ := g1
          obtain ⟨g2a, g2b⟩ := g2
          go_wp2_with (first
            | (at_builtin; refine wpList_append_own _ rfl _ _ 55 rfl w.heap.size 5 i0 (.int .u8 0) 1 1 Try.underlying55 hi hz0 hz1 hz2 rfl (by decide) _ _ _ rfl (HO.out.alloc _) ⟨wr.heap.size, 0, none⟩ 1 1 [.int .u8 ((tsetP zs f m tag).getD k 0)] rfl ?c1TR ?c2TR ?c3TR ?c4TR ?c5TR ?c6TR ?_)
            | (go_at_call 35; refine (cget_any A n c zs _ _ B (HZ.out.below (hbw.mono hB)) HB.out (by have := hbw.size; omega) hn).mono ?_; rintro e w2 ⟨rfl, hw2⟩; rw [hw2]; clear hw2))
          try (case c1TR => rfl)
          case c2TR =>
            intro j u hj
            have hj0 : j = 0 := by
              have := (List.getElem?_eq_some_iff.1 hj).1
              simp at this
              exact this
            subst hj0
            have hu : u = .int .u8 ((tsetP zs f m tag).getD k 0) := Option.some.inj hj.symm
            subst hu
            have hx := HX.out
            have b4 := b0
            have b5 := b1
            first
              | (rw [Addr.add_zero_lit, World.cell?_alloc_at _ _ _ _ rfl]; refine congrArg some (congrArg (Value.int .u8) ?_))
              | (refine congrArg some (congrArg (Value.int .u8) ?_))
            refine Eq.trans ?_ hx.symm
            clear hx HX
            change 0 ≤ zs.getD k 0 at b2
            first
              | rfl
              | (change _ = 16 * (zs.getD k 0 / 16) + (tag); generalize zs.getD k 0 = b at *; go_arith)
          case c3TR => first | rfl | (intro u hu; simp at hu; subst hu; rfl)
          case c4TR => unfold maxLen; omega
          case c5TR => omega
          case c6TR => have := hbw.size; simp; omega
          intro v' w3 hown hgrow _
          have HO3 := Lib.hid hown
          clear hown
          go_wp2
          go_roundw
          case rel => exact ⟨k + 1, by omega, by go_num, by rw [take_next (by rw [tsetP_len, HL.out]; exact hlt), List.map_append, List.map_take]; exact HO3.out, (hbw.alloc hbw.size _).grown hgrow (by have := hbw.size; simp; omega) (own_from HO.out)⟩
          case measure => simp [intOf]; omega
        · have hx : (tsetP zs f m tag).getD k 0 = 16 * (zs.getD k 0 / 16) + (zs.getD k 0 % 16) := by
            rw [tsetP_at (by rw [HL.out]; exact hlt)]; unfold hvLo hvHi
            rw [if_neg (by omega), if_neg (by omega)]
          have HX := Lib.hid hx
          clear hx
          have b2 : 0 ≤ zs[k]?.getD 0 := b0
          have b3 : zs[k]?.getD 0 < 256 := b1
          go_wp2_with (first
            | (at_builtin; refine wpList_append_own _ rfl _ _ 55 rfl w.heap.size 5 i0 (.int .u8 0) 1 1 Try.underlying55 hi hz0 hz1 hz2 rfl (by decide) _ _ _ rfl (HO.out.alloc _) ⟨wr.heap.size, 0, none⟩ 1 1 [.int .u8 ((tsetP zs f m tag).getD k 0)] rfl ?c1LL ?c2LL ?c3LL ?c4LL ?c5LL ?c6LL ?_)
            | (go_at_call 35; refine (cget_any A n c zs _ _ B (HZ.out.below (hbw.mono hB)) HB.out (by have := hbw.size; omega) hn).mono ?_; rintro e w2 ⟨rfl, hw2⟩; rw [hw2]; clear hw2))
          try (case c1LL => rfl)
          case c2LL =>
            intro j u hj
            have hj0 : j = 0 := by
              have := (List.getElem?_eq_some_iff.1 hj).1
              simp at this
              exact this
            subst hj0
            have hu : u = .int .u8 ((tsetP zs f m tag).getD k 0) := Option.some.inj hj.symm
            subst hu
            have hx := HX.out
            have b4 := b0
            have b5 := b1
            first
              | (rw [Addr.add_zero_lit, World.cell?_alloc_at _ _ _ _ rfl]; refine congrArg some (congrArg (Value.int .u8) ?_))
              | (refine congrArg some (congrArg (Value.int .u8) ?_))
            refine Eq.trans ?_ hx.symm
            clear hx HX
            change 0 ≤ zs.getD k 0 at b2
            first
              | rfl
              | (change _ = 16 * (zs.getD k 0 / 16) + (zs.getD k 0 % 16); generalize zs.getD k 0 = b at *; go_arith)
          case c3LL => first | rfl | (intro u hu; simp at hu; subst hu; rfl)
          case c4LL => unfold maxLen; omega
          case c5LL => omega
          case c6LL => have := hbw.size; simp; omega
          intro v' w3 hown hgrow _
          have HO3 := Lib.hid hown
          clear hown
          go_wp2
          go_roundw
          case rel => exact ⟨k + 1, by omega, by go_num, by rw [take_next (by rw [tsetP_len, HL.out]; exact hlt), List.map_append, List.map_take]; exact HO3.out, (hbw.alloc hbw.size _).grown hgrow (by have := hbw.size; simp; omega) (own_from HO.out)⟩
          case measure => simp [intOf]; omega
        · have hx : (tsetP zs f m tag).getD k 0 = 16 * (tag) + (zs.getD k 0 % 16) := by
            rw [tsetP_at (by rw [HL.out]; exact hlt)]; unfold hvLo hvHi
            rw [if_pos (by omega), if_neg (by omega)]
          have HX := Lib.hid hx
          clear hx
          have b2 : 0 ≤ zs[k]?.getD 0 := b0
          have b3 : zs[k]?.getD 0 < 256 := b1
          obtain ⟨g2a, g2b⟩ := g2
          go_wp2_with (first
            | (at_builtin; refine wpList_append_own _ rfl _ _ 55 rfl w.heap.size 5 i0 (.int .u8 0) 1 1 Try.underlying55 hi hz0 hz1 hz2 rfl (by decide) _ _ _ rfl (HO.out.alloc _) ⟨wr.heap.size, 0, none⟩ 1 1 [.int .u8 ((tsetP zs f m tag).getD k 0)] rfl ?c1LT ?c2LT ?c3LT ?c4LT ?c5LT ?c6LT ?_)
            | (go_at_call 35; refine (cget_any A n c zs _ _ B (HZ.out.below (hbw.mono hB)) HB.out (by have := hbw.size; omega) hn).mono ?_; rintro e w2 ⟨rfl, hw2⟩; rw [hw2]; clear hw2))
          try (case c1LT => rfl)
          case c2LT =>
            intro j u hj
            have hj0 : j = 0 := by
              have := (List.getElem?_eq_some_iff.1 hj).1
              simp at this
              exact this
            subst hj0
            have hu : u = .int .u8 ((tsetP zs f m tag).getD k 0) := Option.some.inj hj.symm
            subst hu
            have hx := HX.out
            have b4 := b0
            have b5 := b1
            first
              | (rw [Addr.add_zero_lit, World.cell?_alloc_at _ _ _ _ rfl]; refine congrArg some (congrArg (Value.int .u8) ?_))
              | (refine congrArg some (congrArg (Value.int .u8) ?_))
            refine Eq.trans ?_ hx.symm
            clear hx HX
            change 0 ≤ zs.getD k 0 at b2
            first
              | rfl
              | (change _ = 16 * (tag) + (zs.getD k 0 % 16); generalize zs.getD k 0 = b at *; go_arith)
          case c3LT => first | rfl | (intro u hu; simp at hu; subst hu; rfl)
          case c4LT => unfold maxLen; omega
          case c5LT => omega
          case c6LT => have := hbw.size; simp; omega
          intro v' w3 hown hgrow _
          have HO3 := Lib.hid hown
          clear hown
          go_wp2
          go_roundw
          case rel => exact ⟨k + 1, by omega, by go_num, by rw [take_next (by rw [tsetP_len, HL.out]; exact hlt), List.map_append, List.map_take]; exact HO3.out, (hbw.alloc hbw.size _).grown hgrow (by have := hbw.size; simp; omega) (own_from HO.out)⟩
          case measure => simp [intOf]; omega
        · have hx : (tsetP zs f m tag).getD k 0 = 16 * (zs.getD k 0 / 16) + (zs.getD k 0 % 16) := by
            rw [tsetP_at (by rw [HL.out]; exact hlt)]; unfold hvLo hvHi
            rw [if_neg (by omega), if_neg (by omega)]
          have HX := Lib.hid hx
          clear hx
          have b2 : 0 ≤ zs[k]?.getD 0 := b0
          have b3 : zs[k]?.getD 0 < 256 := b1
          obtain ⟨g2a, g2b⟩ := g2
          go_wp2_with (first
            | (at_builtin; refine wpList_append_own _ rfl _ _ 55 rfl w.heap.size 5 i0 (.int .u8 0) 1 1 Try.underlying55 hi hz0 hz1 hz2 rfl (by decide) _ _ _ rfl (HO.out.alloc _) ⟨wr.heap.size, 0, none⟩ 1 1 [.int .u8 ((tsetP zs f m tag).getD k 0)] rfl ?c1LR ?c2LR ?c3LR ?c4LR ?c5LR ?c6LR ?_)
            | (go_at_call 35; refine (cget_any A n c zs _ _ B (HZ.out.below (hbw.mono hB)) HB.out (by have := hbw.size; omega) hn).mono ?_; rintro e w2 ⟨rfl, hw2⟩; rw [hw2]; clear hw2))
          try (case c1LR => rfl)
          case c2LR =>
            intro j u hj
            have hj0 : j = 0 := by
              have := (List.getElem?_eq_some_iff.1 hj).1
              simp at this
              exact this
            subst hj0
            have hu : u = .int .u8 ((tsetP zs f m tag).getD k 0) := Option.some.inj hj.symm
            subst hu
            have hx := HX.out
            have b4 := b0
            have b5 := b1
            first
              | (rw [Addr.add_zero_lit, World.cell?_alloc_at _ _ _ _ rfl]; refine congrArg some (congrArg (Value.int .u8) ?_))
              | (refine congrArg some (congrArg (Value.int .u8) ?_))
            refine Eq.trans ?_ hx.symm
            clear hx HX
            change 0 ≤ zs.getD k 0 at b2
            first
              | rfl
              | (change _ = 16 * (zs.getD k 0 / 16) + (zs.getD k 0 % 16); generalize zs.getD k 0 = b at *; go_arith)
          case c3LR => first | rfl | (intro u hu; simp at hu; subst hu; rfl)
          case c4LR => unfold maxLen; omega
          case c5LR => omega
          case c6LR => have := hbw.size; simp; omega
          intro v' w3 hown hgrow _
          have HO3 := Lib.hid hown
          clear hown
          go_wp2
          go_roundw
          case rel => exact ⟨k + 1, by omega, by go_num, by rw [take_next (by rw [tsetP_len, HL.out]; exact hlt), List.map_append, List.map_take]; exact HO3.out, (hbw.alloc hbw.size _).grown hgrow (by have := hbw.size; simp; omega) (own_from HO.out)⟩
          case measure => simp [intOf]; omega
        · have hx : (tsetP zs f m tag).getD k 0 = 16 * (zs.getD k 0 / 16) + (zs.getD k 0 % 16) := by
            rw [tsetP_at (by rw [HL.out]; exact hlt)]; unfold hvLo hvHi
            rw [if_neg (by omega), if_neg (by omega)]
          have HX := Lib.hid hx
          clear hx
          have b2 : 0 ≤ zs[k]?.getD 0 := b0
          have b3 : zs[k]?.getD 0 < 256 := b1
          obtain ⟨g1a, g1b⟩ := g1
          obtain ⟨g2a, g2b⟩ := g2
          go_wp2_with (first
            | (at_builtin; refine wpList_append_own _ rfl _ _ 55 rfl w.heap.size 5 i0 (.int .u8 0) 1 1 Try.underlying55 hi hz0 hz1 hz2 rfl (by decide) _ _ _ rfl (HO.out.alloc _) ⟨wr.heap.size, 0, none⟩ 1 1 [.int .u8 ((tsetP zs f m tag).getD k 0)] rfl ?c1RR ?c2RR ?c3RR ?c4RR ?c5RR ?c6RR ?_)
            | (go_at_call 35; refine (cget_any A n c zs _ _ B (HZ.out.below (hbw.mono hB)) HB.out (by have := hbw.size; omega) hn).mono ?_; rintro e w2 ⟨rfl, hw2⟩; rw [hw2]; clear hw2))
          try (case c1RR => rfl)
          case c2RR =>
            intro j u hj
            have hj0 : j = 0 := by
              have := (List.getElem?_eq_some_iff.1 hj).1
              simp at this
              exact this
            subst hj0
            have hu : u = .int .u8 ((tsetP zs f m tag).getD k 0) := Option.some.inj hj.symm
            subst hu
            have hx := HX.out
            have b4 := b0
            have b5 := b1
            first
              | (rw [Addr.add_zero_lit, World.cell?_alloc_at _ _ _ _ rfl]; refine congrArg some (congrArg (Value.int .u8) ?_))
              | (refine congrArg some (congrArg (Value.int .u8) ?_))
            refine Eq.trans ?_ hx.symm
            clear hx HX
            change 0 ≤ zs.getD k 0 at b2
            first
              | rfl
              | (change _ = 16 * (zs.getD k 0 / 16) + (zs.getD k 0 % 16); generalize zs.getD k 0 = b at *; go_arith)
          case c3RR => first | rfl | (intro u hu; simp at hu; subst hu; rfl)
          case c4RR => unfold maxLen; omega
          case c5RR => omega
          case c6RR => have := hbw.size; simp; omega
          intro v' w3 hown hgrow _
          have HO3 := Lib.hid hown
          clear hown
          go_wp2
          go_roundw
          case rel => exact ⟨k + 1, by omega, by go_num, by rw [take_next (by rw [tsetP_len, HL.out]; exact hlt), List.map_append, List.map_take]; exact HO3.out, (hbw.alloc hbw.size _).grown hgrow (by have := hbw.size; simp; omega) (own_from HO.out)⟩
          case measure => simp [intOf]; omega
      · obtain rfl : k = n := by omega
        go_wp2
        go_ret2
        have hv := HO.out
        rw [List.take_of_length_le (by rw [tsetP_len, HL.out]; exact Nat.le_refl _)] at hv
        obtain ⟨A', c', rfl, ho⟩ := Own.of_row hv
        exact ⟨A', k, c', by rw [H.out.1]; rfl, by rw [H.out.2]; exact ho, hbw⟩
end Go.Proofs.Ytokpodmefnmmcaa
