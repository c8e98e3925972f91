/- table.Link and the document's ELink: what they answer. -/
import Derived.Test.YtidfngplhjegpaaTabK
namespace Go.Proofs.Ytidfngplhjegpaa
open Go.RowKit
set_option linter.unusedVariables false

def linkE (zs : List Int) (root page leaf : Int) : Int :=
  if root = leaf then 7 else if page < 0 ∨ 64 ≤ page ∨ plc zs.length root (page / 8) < 0 ∨ plc zs.length leaf 7 < 0 then 2 else 0
def linkP (zs : List Int) (root page leaf : Int) : List Int := putN zs (64 * root + 4 * (page / 8)).toNat (256 * leaf + 1) 4
def linkL (zs : List Int) (root page leaf : Int) : List Int := if linkE zs root page leaf = 0 then clrL (linkP zs root page leaf) leaf else []
theorem packE_1 {leaf : Int} : packE 1 leaf = if leaf < 0 ∨ 64 ≤ leaf then 2 else 0 := by
  unfold packE
  rw [if_neg (by omega)]
  by_cases h : leaf < 0 ∨ 64 ≤ leaf
  · rw [if_pos (by omega), if_pos h]
  · rw [if_neg (by omega), if_neg h]
theorem link_cases {zs : List Int} {root page leaf : Int} (hne : root ≠ leaf) :
    (hangE zs root page leaf = 2 ∧ linkE zs root page leaf = 2 ∧ (page < 0 ∨ 64 ≤ page ∨ (0 ≤ page ∧ page < 64 ∧ ¬ plcOk zs.length root (page / 8)) ∨ (0 ≤ page ∧ page < 64 ∧ plcOk zs.length root (page / 8) ∧ ¬ plcOk zs.length leaf 7))) ∨
    (hangE zs root page leaf = 0 ∧ hangW zs root page leaf = linkP zs root page leaf ∧ 0 ≤ page ∧ page < 64 ∧ plcOk zs.length root (page / 8) ∧ ¬ plcOk zs.length leaf 7 ∧ linkE zs root page leaf = 2) ∨
    (hangE zs root page leaf = 0 ∧ hangW zs root page leaf = linkP zs root page leaf ∧ 0 ≤ page ∧ page < 64 ∧ plcOk zs.length root (page / 8) ∧ plcOk zs.length leaf 7 ∧ linkE zs root page leaf = 0 ∧ linkL zs root page leaf = clrL (linkP zs root page leaf) leaf) := by
  have hE : ∀ x, linkE zs root page leaf = x ↔ (if page < 0 ∨ 64 ≤ page ∨ plc zs.length root (page / 8) < 0 ∨ plc zs.length leaf 7 < 0 then (2 : Int) else 0) = x := fun x => by unfold linkE; rw [if_neg hne]
  by_cases h1 : page < 0 ∨ 64 ≤ page
  · exact .inl ⟨by unfold hangE; rw [if_pos h1], (hE 2).2 (by rw [if_pos (by omega)]), by omega⟩
  · by_cases h2 : plcOk zs.length root (page / 8)
    · by_cases h3 : leaf < 0 ∨ 64 ≤ leaf
      · have h4 : ¬ plcOk zs.length leaf 7 := by unfold plcOk; omega
        refine .inl ⟨?_, (hE 2).2 (by rw [if_pos (by right; right; right; exact plc_neg.2 h4)]), by right; right; right; exact ⟨by omega, by omega, h2, h4⟩⟩
        unfold hangE; rw [if_neg h1]; unfold wrE; rw [packE_1, if_pos h3, if_pos (by decide)]
      · have hp : packE 1 leaf = 0 := by rw [packE_1, if_neg h3]
        have hw : wrE zs root (page / 8) 1 leaf = 0 := by unfold wrE; rw [hp, if_neg (by decide), if_neg (fun h => plc_neg.1 h h2)]
        have hh : hangE zs root page leaf = 0 := by unfold hangE; rw [if_neg h1]; exact hw
        have hl : hangW zs root page leaf = linkP zs root page leaf := by
          unfold hangW linkP; rw [if_neg h1]; unfold wrL; rw [if_pos hw, plc_yes h2, packV_ok hp]; congr 1; omega
        by_cases h4 : plcOk zs.length leaf 7
        · have he : linkE zs root page leaf = 0 := (hE 0).2 (by rw [if_neg (by rw [plc_neg, plc_neg]; intro h; rcases h with h | h | h | h; all_goals first | omega | exact h h2 | exact h h4)])
          exact .inr (.inr ⟨hh, hl, by omega, by omega, h2, h4, he, by unfold linkL; rw [if_pos he]⟩)
        · exact .inr (.inl ⟨hh, hl, by omega, by omega, h2, h4, (hE 2).2 (by rw [if_pos (by right; right; right; exact plc_neg.2 h4)])⟩)
    · refine .inl ⟨?_, (hE 2).2 (by rw [if_pos (by right; right; left; exact plc_neg.2 h2)]), by right; right; left; exact ⟨by omega, by omega, h2⟩⟩
      unfold hangE; rw [if_neg h1]; unfold wrE
      rw [packE_1]
      by_cases h3 : leaf < 0 ∨ 64 ≤ leaf
      · rw [if_pos h3, if_pos (by decide)]
      · rw [if_neg h3, if_neg (by decide), if_pos (plc_neg.2 h2)]
theorem linkP_len (zs : List Int) (root page leaf : Int) : (linkP zs root page leaf).length = zs.length := putN_len _ _ _ _
theorem at_small (zs : List Int) (f k : Int) (h : plcOk zs.length f k) : atE zs f k = 0 ∨ atE zs f k = 1 := by rw [(at_yes h).2.1]; exact unE_01 _

def TLinkP (E : Int) (zs : List Int) (w : World) (e : Ending) (w' : World) : Prop :=
  ∃ A' n' c', e = .returned (.tuple #[.slice A' n' c', .int .i64 E]) ∧ Row .u8 w' w'.heap.size A' n' zs ∧ Below w.heap.size w w'
theorem row_nil (w : World) (B : Nat) : Row .u8 w B none 0 [] := ⟨rfl, by simp, fun h => absurd h (by omega)⟩

set_option maxHeartbeats 4000000 in
theorem link_any (A : Option Addr) (len c : Nat) (zs : List Int) (root page leaf : Int) (w : World) (B : Nat) (hz : Row .u8 w B A len zs) (hB : B ≤ w.heap.size) (hb : Bytes zs) (hn : len ≤ 140737488355328) :
    Calls Try.prog 27 #[.slice A len c, .int .i64 root, .int .i64 page, .int .i64 leaf] w (TLinkP (linkE zs root page leaf) (linkL zs root page leaf) w) := by
  have HCL := Lib.hid (clone_any A len c zs w B hz hB hn)
  have HLN := Lib.hid hz.1
  have HB := Lib.hid hb
  clear hz hb
  by_cases hne : root = leaf
  · subst hne
    have e1 : linkE zs root page root = 7 := by unfold linkE; rw [if_pos rfl]
    have e2 : linkL zs root page root = [] := by unfold linkL; rw [if_neg (by rw [e1]; decide)]
    rw [e1, e2]
    clear e1 e2
    go_enter Try.func27, Try.ntmps27
    go_wp2
    go_ret2
    exact ⟨none, 0, 0, rfl, row_nil _ _, Below.refl _ _⟩
  · have hq : (root == leaf) = false := by simp [hne]
    have hL2 : linkE zs root page leaf = 2 → linkL zs root page leaf = [] := fun e => by unfold linkL; rw [if_neg (by rw [e]; decide)]
    rcases link_cases (zs := zs) (page := page) hne with ⟨h1, h2, _⟩ | ⟨h1, hw, _, _, _, h4, h2⟩ | ⟨h1, hw, _, _, _, h4, h2, h3⟩
    · rw [h2, hL2 h2]
      have HE := Lib.hid h1
      clear h1 h2 hL2 hne
      go_enter Try.func27, Try.ntmps27
      go_wp2_with fail
      refine HCL.out.mono ?_
      rintro e w1 ⟨A', c', rfl, ho1, hb1⟩
      have hz1 := hb1.size
      have HO1 := Lib.hid ho1
      clear ho1
      go_wp2_with fail
      refine (hang_any A' len c' zs root page leaf _ w.heap.size HO1.out hz1 hn).mono ?_
      rintro e w2 ⟨rfl, ho2, hb2⟩
      rw [HE.out]
      clear ho2
      go_wp2
      go_ret2
      exact ⟨none, 0, 0, rfl, row_nil _ _, hb1.trans hb2⟩
    · rw [h2, hL2 h2]
      have HE := Lib.hid h1
      have HW := Lib.hid hw
      have hat := (at_no (zs := linkP zs root page leaf) (f := leaf) (k := 7) (by rw [linkP_len]; exact h4)).1
      have HA := Lib.hid hat
      have HPB : Hid (Bytes (linkP zs root page leaf)) := Lib.hid (putN_bytes HB.out _ _ _)
      clear h1 h2 hL2 hne hw h4 hat
      go_enter Try.func27, Try.ntmps27
      go_wp2_with fail
      refine HCL.out.mono ?_
      rintro e w1 ⟨A', c', rfl, ho1, hb1⟩
      have hz1 := hb1.size
      have HO1 := Lib.hid ho1
      clear ho1
      go_wp2_with fail
      refine (hang_any A' len c' zs root page leaf _ w.heap.size HO1.out hz1 hn).mono ?_
      rintro e w2 ⟨rfl, ho2, hb2⟩
      rw [HW.out] at ho2
      rw [HE.out]
      have HQ := Lib.hid ho2
      clear ho2
      go_wp2_with fail
      refine (tat_any A' len c' (linkP zs root page leaf) leaf 7 _ _ HQ.out.row (Nat.le_refl _) HPB.out hn).mono ?_
      rintro e w3 ⟨rfl, hb3⟩
      rw [HA.out]
      have hbw := hb1.trans (hb2.trans (hb3.mono (by have := hb2.size; omega)))
      go_wp2
      go_ret2
      exact ⟨none, 0, 0, rfl, row_nil _ _, hbw.alloc hbw.size _⟩
    · rw [h2, h3]
      have HE := Lib.hid h1
      have HW := Lib.hid hw
      have hat := at_small (linkP zs root page leaf) leaf 7 (by rw [linkP_len]; exact h4)
      have HPB : Hid (Bytes (linkP zs root page leaf)) := Lib.hid (putN_bytes HB.out _ _ _)
      have hlp := linkP_len zs root page leaf
      clear h1 h2 h3 hL2 hne hw h4 hlp
      generalize linkP zs root page leaf = P at *
      have HAT := Lib.hid (fun W A' c' hr => tat_any A' len c' P leaf 7 W W.heap.size hr (Nat.le_refl _) HPB.out hn)
      generalize atE P leaf 7 = E at *
      generalize atK P leaf 7 = K at *
      generalize atN P leaf 7 = N at *
      rcases hat with rfl | rfl
      all_goals
        go_enter Try.func27, Try.ntmps27
        go_wp2_with fail
        refine HCL.out.mono ?_
        rintro e w1 ⟨A', c', rfl, ho1, hb1⟩
        have hz1 := hb1.size
        have HO1 := Lib.hid ho1
        clear ho1
        go_wp2_with fail
        refine (hang_any A' len c' zs root page leaf _ w.heap.size HO1.out hz1 hn).mono ?_
        rintro e w2 ⟨rfl, ho2, hb2⟩
        rw [HW.out] at ho2
        rw [HE.out]
        have HQ := Lib.hid ho2
        clear ho2
        go_wp2_with fail
        refine (HAT.out _ A' c' HQ.out.row).mono ?_
        rintro e w3 ⟨rfl, hb3⟩
        have hbw := hb1.trans (hb2.trans (hb3.mono (by have := hb2.size; omega)))
        go_wp2_with fail
        refine (clear_any A' len c' P leaf _ w.heap.size ((HQ.out.below hb3 (Nat.le_refl _)).below ((Below.refl w3.heap.size w3).alloc (Nat.le_refl _) _) (Nat.le_refl _)) hn).mono ?_
        rintro e w4 ⟨rfl, ho4, hb4⟩
        have HQ4 := Lib.hid ho4
        clear ho4
        go_wp2
        go_ret2
        exact ⟨A', len, c', rfl, HQ4.out.row, (hbw.alloc hbw.size _).trans hb4⟩
end Go.Proofs.Ytidfngplhjegpaa
