/- The document's ELink: what it answers. -/
import Derived.Test.YtidfngplhjegpaaTabM
import Derived.Deep.LoopGhost
namespace Go.Proofs.Ytidfngplhjegpaa
open Go.RowKit
set_option linter.unusedVariables false

theorem own_row_any {T : TypeId} {w : World} {base : Nat} {A : Option Addr} {n c : Nat} {zs : List Int} (h : Own .u8 T w base A n c zs) : Row .u8 w w.heap.size A n zs := h.row
theorem Row.any' {w w' : World} {A : Option Addr} {n : Nat} {zs : List Int} {B : Nat} (h : Row .u8 w B A n zs) (hb : Below w.heap.size w w') (hB : B ≤ w.heap.size) : Row .u8 w' w'.heap.size A n zs := by
  have h1 := h.below (hb.mono hB)
  exact ⟨h1.1, h1.2.1, fun hn => by obtain ⟨b, off, e, hb', hc⟩ := h1.2.2 hn; exact ⟨b, off, e, by have := hb.size; omega, hc⟩⟩
theorem rputL_at {zs : List Int} {p : Nat} {v : Int} (h : p + 4 ≤ zs.length) : rgetE zs p 4 = 0 ∧ rputL zs p 4 v = putN zs p v 4 := by
  have e : rgetE zs p 4 = 0 := by unfold rgetE; rw [if_neg (by omega)]
  exact ⟨e, by unfold rputL; rw [if_pos e, Int.toNat_natCast]; rfl⟩

set_option maxHeartbeats 8000000 in
theorem elink_any (A : Option Addr) (len c : Nat) (zs : List Int) (root page leaf : Int) (w : World) (hz : Row .u8 w w.heap.size A len zs) (hb : Bytes zs) (hn : len ≤ 140737488355328) (ri : I64 root) (li : I64 leaf) :
    Calls Try.prog 28 #[.slice A len c, .int .i64 root, .int .i64 page, .int .i64 leaf] w (TLinkP (linkE zs root page leaf) (linkL zs root page leaf) w) := by
  have HZ := Lib.hid hz
  have HLN := Lib.hid hz.1
  have HB := Lib.hid hb
  clear hz hb
  by_cases hne : root = leaf
  · subst hne
    have e1 : linkE zs root page root = 7 := by unfold linkE; rw [if_pos rfl]
    have e2 : linkL zs root page root = [] := by unfold linkL; rw [if_neg (by rw [e1]; decide)]
    rw [e1, e2]
    clear e1 e2
    go_enter Try.func28, Try.ntmps28
    go_wp2
    go_ret2
    exact ⟨none, 0, 0, rfl, row_nil _ _, Below.refl _ _⟩
  · have hq : (root == leaf) = false := by simp [hne]
    have hL2 : linkE zs root page leaf = 2 → linkL zs root page leaf = [] := fun e => by unfold linkL; rw [if_neg (by rw [e]; decide)]
    by_cases hp : page < 0 ∨ 64 ≤ page
    · have e1 : linkE zs root page leaf = 2 := by unfold linkE; rw [if_neg hne, if_pos (by omega)]
      rw [e1, hL2 e1]
      clear e1 hL2 hne
      rcases hp with hp | hp
      all_goals
        go_enter Try.func28, Try.ntmps28
        go_wp2
        go_ret2
        exact ⟨none, 0, 0, rfl, row_nil _ _, Below.refl _ _⟩
    · have p0 : 0 ≤ page := by omega
      have p1 : page < 64 := by omega
      have HE1 := Lib.hid (fun W => enumber_any A len c root (page / 8) W hn ri (by unfold I64; omega) (by omega) (by omega))
      have HE2 := Lib.hid (fun W => enumber_any A len c leaf 7 W hn li (by unfold I64; omega) (by omega) (by omega))
      by_cases h1 : plcOk zs.length root (page / 8)
      · have g1 := plc_yes h1
        rw [HLN.out] at g1
        rw [g1] at HE1
        by_cases h2 : plcOk zs.length leaf 7
        · have g2 := plc_yes h2
          rw [HLN.out] at g2
          rw [g2] at HE2
          have eE : linkE zs root page leaf = 0 := by
            unfold linkE
            rw [if_neg hne, if_neg (by rw [plc_neg, plc_neg]; intro h; rcases h with h | h | h | h; all_goals first | omega | exact h h1 | exact h h2)]
          have eL : linkL zs root page leaf = clrL (linkP zs root page leaf) leaf := by unfold linkL; rw [if_pos eE]
          rw [eE, eL]
          have eP : linkP zs root page leaf = putN zs (64 * root + 4 * (page / 8)).toNat (256 * leaf + 1) 4 := rfl
          have hlp := linkP_len zs root page leaf
          unfold plcOk at h1 h2
          obtain ⟨x, hx⟩ : ∃ x : Nat, 64 * root + 4 * (page / 8) = x := ⟨(64 * root + 4 * (page / 8)).toNat, by omega⟩
          have hxl : x + 4 ≤ len := by have := HLN.out; omega
          obtain ⟨f, rfl⟩ := Int.eq_ofNat_of_zero_le h2.1
          have hf64 : f < 64 := by omega
          have h28 : (0 : Int) ≤ 64 * (f : Int) + 4 * 7 := by omega
          have hf32 : 64 * f + 32 ≤ len := by have := HLN.out; omega
          obtain ⟨r1, r2⟩ := rputL_at (zs := zs) (p := x) (v := 256 * (f : Int) + 1) (by rw [HLN.out]; exact hxl)
          rw [hx] at eP HE1
          rw [Int.toNat_natCast] at eP
          rw [← eP] at r2
          have HR1 := Lib.hid r1
          have HR2 := Lib.hid r2
          have HPB : Hid (Bytes (linkP zs root page f)) := Lib.hid (putN_bytes HB.out _ _ _)
          rw [HLN.out] at hlp
          have HLP := Lib.hid hlp
          have hx0 : (0 : Int) ≤ (x : Int) := by omega
          clear r1 r2 eP eE eL hL2 hne h1 h2 g1 g2 hx hlp
          generalize linkP zs root page f = P at *
          by_cases hbig : 64 * (f : Int) + 64 ≤ (len : Int)
          · have hc9 : clrL P f = zfill P (64 * f) 64 := by
              unfold clrL
              rw [if_pos (by unfold clrOk; rw [HLP.out]; omega)]
              congr 1
            have HC9 : Hid (clrL P f = zputs P (64 * f) 16) := Lib.hid (by rw [hc9, zputs_fill])
            clear hc9
            go_enter Try.func28, Try.ntmps28
            go_wp2_with fail
            refine (HE1.out _).mono ?_
            rintro e w1 ⟨rfl, hw⟩; rw [hw]; clear hw w1
            go_wp2_with fail
            refine (HE2.out _).mono ?_
            rintro e w1 ⟨rfl, hw⟩; rw [hw]; clear hw w1
            go_wp2_with fail
            refine (HE1.out _).mono ?_
            rintro e w1 ⟨rfl, hw⟩; rw [hw]; clear hw w1
            go_wp2_with fail
            refine (aPut_any A len c zs x 4 (256 * (f : Int) + 1) _ w.heap.size HZ.out HB.out (Nat.le_refl _) hn (by omega)).mono ?_
            rintro e w1 ⟨A1, n1, c1, rfl, ho1, hb1⟩
            rw [HR2.out] at ho1
            rw [HR1.out]
            have hn1 : n1 = len := by have := ho1.1; rw [HLP.out] at this; exact this.symm
            subst hn1
            have HO1 := Lib.hid ho1.row
            clear ho1
            go_wp2
            go_loopg [10, 55] 16 (fun r o i wr => ∃ k : Nat, ∃ Ak : Option Addr, ∃ ck : Nat, k + r = 16 ∧ i = .int .i64 k ∧ o = .slice Ak n1 ck ∧ Row .u8 wr wr.heap.size Ak n1 (zputs P (64 * f) k) ∧ Below w.heap.size w wr)
            case atStart => exact ⟨0, A1, c1, rfl, rfl, rfl, HO1.out, hb1⟩
            case round =>
              obtain ⟨k, Ak, ck, hk, rfl, rfl, hrk, hbk⟩ := hrel
              have HRK := Lib.hid hrk
              have hzk := hbk.size
              clear hrk
              obtain ⟨wo, hwo⟩ : ∃ wo : World, wo = wr := ⟨_, rfl⟩
              subst hwo
              by_cases hlt : k < 16
              · obtain ⟨s1, s2⟩ := rputL_at (zs := zputs P (64 * f) k) (p := 64 * f + 4 * k) (v := 0) (by rw [zputs_len, HLP.out]; omega)
                have HS : Hid (rputL (zputs P (64 * f) k) ((64 * f + 4 * k : Nat) : Int) 4 0 = zputs P (64 * f) (k + 1)) := Lib.hid (by rw [s2]; rfl)
                have HS1 := Lib.hid s1
                have HZB : Hid (Bytes (zputs P (64 * f) k)) := Lib.hid (by rw [zputs_fill]; exact zfill_bytes HPB.out _ _)
                have HZL : Hid ((zputs P (64 * f) (k + 1)).length = n1) := Lib.hid (by rw [zputs_len, HLP.out])
                have hk0 : (k : Int) < 16 := by omega
                clear s1 s2
                go_wp2_with fail
                refine (aPut_any Ak n1 ck (zputs P (64 * f) k) (64 * (f : Int) + 4 * (k : Int)) 4 0 _ wo.heap.size HRK.out HZB.out (Nat.le_refl _) hn (by omega)).mono ?_
                rintro e w3 ⟨A3, n3, c3, rfl, ho3, hb3⟩
                have hcast : (64 * (f : Int) + 4 * (k : Int)) = ((64 * f + 4 * k : Nat) : Int) := by omega
                rw [hcast] at ho3
                rw [HS.out] at ho3
                have hn3 : n3 = n1 := by have := ho3.1; rw [HZL.out] at this; exact this.symm
                subst hn3
                have HO3 := Lib.hid ho3.row
                clear ho3 hcast
                go_wp2
                go_roundg (gk - 1)
                case measure => omega
                case rel => exact ⟨k + 1, A3, c3, by omega, by go_num, rfl, HO3.out, hbk.trans (hb3.mono hzk)⟩
              · obtain rfl : k = 16 := by omega
                go_wp2
                go_ret2
                exact ⟨Ak, n1, ck, rfl, by rw [HC9.out]; exact HRK.out, hbk⟩
          · have HC9 : Hid (clrL P f = P) := Lib.hid (by
              unfold clrL
              rw [if_neg (by unfold clrOk; rw [HLP.out]; omega)])
            have hbig' : (len : Int) < 64 * (f : Int) + 64 := by omega
            clear hbig
            go_enter Try.func28, Try.ntmps28
            go_wp2_with fail
            refine (HE1.out _).mono ?_
            rintro e w1 ⟨rfl, hw⟩; rw [hw]; clear hw w1
            go_wp2_with fail
            refine (HE2.out _).mono ?_
            rintro e w1 ⟨rfl, hw⟩; rw [hw]; clear hw w1
            go_wp2_with fail
            refine (HE1.out _).mono ?_
            rintro e w1 ⟨rfl, hw⟩; rw [hw]; clear hw w1
            go_wp2_with fail
            refine (aPut_any A len c zs x 4 (256 * (f : Int) + 1) _ w.heap.size HZ.out HB.out (Nat.le_refl _) hn (by omega)).mono ?_
            rintro e w1 ⟨A1, n1, c1, rfl, ho1, hb1⟩
            rw [HR2.out] at ho1
            rw [HR1.out]
            have HO1 := Lib.hid ho1.row
            clear ho1
            go_wp2
            go_ret2
            exact ⟨A1, n1, c1, rfl, by rw [HC9.out]; exact HO1.out, hb1⟩
        · have g2 := plc_no h2
          rw [HLN.out] at g2
          rw [g2] at HE2
          have e1 : linkE zs root page leaf = 2 := by unfold linkE; rw [if_neg hne, if_pos (by right; right; right; exact plc_neg.2 h2)]
          rw [e1, hL2 e1]
          have hx0 : 0 ≤ 64 * root + 4 * (page / 8) := by unfold plcOk at h1; omega
          clear e1 hL2 hne h1 h2 g1 g2 hp
          generalize 64 * root + 4 * (page / 8) = x at *
          go_enter Try.func28, Try.ntmps28
          go_wp2_with fail
          refine (HE1.out _).mono ?_
          rintro e w1 ⟨rfl, hw⟩; rw [hw]; clear hw w1
          go_wp2_with fail
          refine (HE2.out _).mono ?_
          rintro e w1 ⟨rfl, hw⟩; rw [hw]; clear hw w1
          go_wp2
          go_ret2
          exact ⟨none, 0, 0, rfl, row_nil _ _, Below.refl _ _⟩
      · have g1 := plc_no h1
        rw [HLN.out] at g1
        rw [g1] at HE1
        have e1 : linkE zs root page leaf = 2 := by unfold linkE; rw [if_neg hne, if_pos (by right; right; left; exact plc_neg.2 h1)]
        rw [e1, hL2 e1]
        clear e1 hL2 hne h1 g1 hp
        go_enter Try.func28, Try.ntmps28
        go_wp2_with fail
        refine (HE1.out _).mono ?_
        rintro e w1 ⟨rfl, hw⟩; rw [hw]; clear hw w1
        go_wp2
        go_ret2
        exact ⟨none, 0, 0, rfl, row_nil _ _, Below.refl _ _⟩
end Go.Proofs.Ytidfngplhjegpaa
