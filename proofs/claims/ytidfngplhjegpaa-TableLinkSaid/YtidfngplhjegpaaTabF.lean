/- TableLink: plain laws, and its walk. -/
import Derived.Test.YtidfngplhjegpaaTabE
namespace Go.Proofs.Ytidfngplhjegpaa
open Go.RowKit
set_option linter.unusedVariables false
theorem num_zero {zs : List Int} : ∀ n a, (∀ i, i < n → zs.getD (a + i) 0 = 0) → num zs a n = 0
  | 0, _, _ => rfl
  | n + 1, a, h => by
    unfold num
    rw [num_zero n (a + 1) (fun i hi => by have h2 := h (i + 1) (by omega); rwa [show a + (i + 1) = a + 1 + i by omega] at h2)]
    have := h 0 (by omega)
    rw [Nat.add_zero] at this
    rw [this]; rfl
theorem fill_at_other {P : List Int} {leaf f k : Int} (h0 : 0 ≤ leaf) (hf : f ≠ leaf) (hk : 0 ≤ k ∧ k < 8) :
    atE (zfill P (64 * leaf).toNat 64) f k = atE P f k ∧ atK (zfill P (64 * leaf).toNat 64) f k = atK P f k ∧ atN (zfill P (64 * leaf).toNat 64) f k = atN P f k := by
  refine at_len (zfill_len _ _ _) fun hp => ?_
  rw [zfill_len] at hp
  unfold plcOk at hp
  obtain ⟨p, hpp⟩ : ∃ p : Nat, 64 * f + 4 * k = p := ⟨(64 * f + 4 * k).toNat, by omega⟩
  rw [hpp, rgetV_num (by rw [zfill_len]; omega), rgetV_num (by omega)]
  exact num_congr 4 p fun i hi => by rw [zfill_at (p + i) _ _ _ (by omega), if_neg (by omega)]
theorem fill_at_same {P : List Int} {leaf k : Int} (hp : plcOk P.length leaf k) :
    atE (zfill P (64 * leaf).toNat 64) leaf k = 0 ∧ atK (zfill P (64 * leaf).toNat 64) leaf k = 0 ∧ atN (zfill P (64 * leaf).toNat 64) leaf k = 0 := by
  obtain ⟨_, a1, a2, a3⟩ := at_yes (zs := zfill P (64 * leaf).toNat 64) (f := leaf) (k := k) (by rw [zfill_len]; exact hp)
  unfold plcOk at hp
  obtain ⟨p, hpp⟩ : ∃ p : Nat, 64 * leaf + 4 * k = p := ⟨(64 * leaf + 4 * k).toNat, by omega⟩
  have e : rgetV (zfill P (64 * leaf).toNat 64) (64 * leaf + 4 * k) 4 = 0 := by
    rw [hpp, rgetV_num (by rw [zfill_len]; omega)]
    exact num_zero 4 p fun i hi => by rw [zfill_at (p + i) _ _ _ (by omega), if_pos (by omega)]
  rw [a1, a2, a3, e]
  decide
structure LinkOk (zs : List Int) (root page leaf : Int) : Prop where
  ne : root ≠ leaf
  p0 : 0 ≤ page
  p1 : page < 64
  r : plcOk zs.length root (page / 8)
  l : plcOk zs.length leaf 7
theorem link_ok {zs : List Int} {root page leaf : Int} (h : linkE zs root page leaf = 0) : LinkOk zs root page leaf := by
  unfold linkE at h
  split at h
  · cases h
  · rename_i hne
    split at h
    · cases h
    · rename_i hc
      rw [plc_neg, plc_neg] at hc
      refine ⟨hne, by omega, by omega, Classical.byContradiction fun g => hc (.inr (.inr (.inl g))), Classical.byContradiction fun g => hc (.inr (.inr (.inr g)))⟩
theorem link_list {zs : List Int} {root page leaf : Int} (h : linkE zs root page leaf = 0) (hl : zs.length = 4096) : linkL zs root page leaf = zfill (linkP zs root page leaf) (64 * leaf).toNat 64 := by
  have hk := (link_ok h).l
  unfold linkL
  rw [if_pos h]
  unfold clrL
  rw [if_pos (by unfold clrOk; rw [linkP_len]; unfold plcOk at hk; omega)]
theorem link_root {zs : List Int} {root page leaf k : Int} (h : linkE zs root page leaf = 0) (hl : zs.length = 4096) (hk : 0 ≤ k ∧ k < 8) (hne : k ≠ page / 8) :
    atE (linkL zs root page leaf) root k = atE zs root k ∧ atK (linkL zs root page leaf) root k = atK zs root k ∧ atN (linkL zs root page leaf) root k = atN zs root k := by
  have ok := link_ok h
  have hL := ok.l
  rw [link_list h hl]
  unfold plcOk at hL
  obtain ⟨a1, a2, a3⟩ := fill_at_other (P := linkP zs root page leaf) hL.1 ok.ne hk
  obtain ⟨b1, b2, b3⟩ := at_put_other (x := 256 * leaf + 1) ok.r (f := root) (k := k) (.inr hne) hk
  rw [a1, a2, a3]
  exact ⟨b1, b2, b3⟩
theorem link_here {zs : List Int} {root page leaf : Int} (h : linkE zs root page leaf = 0) (hl : zs.length = 4096) :
    atE (linkL zs root page leaf) root (page / 8) = 0 ∧ atK (linkL zs root page leaf) root (page / 8) = 1 ∧ atN (linkL zs root page leaf) root (page / 8) = leaf := by
  have ok := link_ok h
  have hL := ok.l
  have h0 := ok.p0
  have h1 := ok.p1
  rw [link_list h hl]
  unfold plcOk at hL
  obtain ⟨a1, a2, a3⟩ := fill_at_other (P := linkP zs root page leaf) (k := page / 8) hL.1 ok.ne (by omega)
  obtain ⟨b1, b2, b3⟩ := at_put_same (x := 256 * leaf + 1) ok.r (by omega) (by omega)
  have hp : packE 1 leaf = 0 := by rw [packE_1, if_neg (by omega)]
  obtain ⟨u1, u2, u3⟩ := un_pack hp
  have hv := packV_ok hp
  rw [show packV 1 leaf = 256 * leaf + 1 by omega] at u1 u2 u3
  rw [a1, a2, a3]
  unfold linkP
  rw [b1, b2, b3]
  exact ⟨u1, u2, u3⟩
theorem link_leaf {zs : List Int} {root page leaf other : Int} (h : linkE zs root page leaf = 0) (hl : zs.length = 4096) (o0 : 0 ≤ other) (o1 : other < 64) (ho : other / 8 = page / 8) :
    leafE (linkL zs root page leaf) root other = 0 ∧ leafV (linkL zs root page leaf) root other = leaf := by
  obtain ⟨a1, a2, a3⟩ := link_here h hl
  have e : leafE (linkL zs root page leaf) root other = 0 := by
    unfold leafE
    rw [if_neg (by omega), ho, a1, if_neg (by decide), a2, if_neg (by decide), if_neg (by decide)]
  exact ⟨e, by unfold leafV; rw [if_pos e, ho, a3]⟩
theorem link_empty {zs : List Int} {root page leaf other : Int} (h : linkE zs root page leaf = 0) (hl : zs.length = 4096) (o0 : 0 ≤ other) (o1 : other < 64) (ho : other / 8 = page / 8) :
    getE (linkL zs root page leaf) root other = 0 ∧ getK (linkL zs root page leaf) root other = 0 ∧ getN (linkL zs root page leaf) root other = 0 := by
  obtain ⟨e1, e2⟩ := link_leaf h hl o0 o1 ho
  have ok := (link_ok h).l
  unfold getE getK getN
  rw [e1, e2]
  simp only [if_true]
  rw [link_list h hl]
  obtain ⟨a1, a2, a3⟩ := fill_at_same (P := linkP zs root page leaf) (leaf := leaf) (k := other % 8) (by rw [linkP_len]; unfold plcOk at *; omega)
  rw [a1, a2, a3]
  simp
theorem link_far {zs : List Int} {root page leaf other : Int} (h : linkE zs root page leaf = 0) (hl : zs.length = 4096) (o0 : 0 ≤ other) (o1 : other < 64) (ho : other / 8 ≠ page / 8) :
    leafE (linkL zs root page leaf) root other = leafE zs root other ∧ leafV (linkL zs root page leaf) root other = leafV zs root other :=
  leaf_congr fun _ _ => link_root h hl (by omega) ho
theorem link_other {zs : List Int} {root page leaf other : Int} (h : linkE zs root page leaf = 0) (hl : zs.length = 4096) (o0 : 0 ≤ other) (o1 : other < 64) (ho : other / 8 ≠ page / 8)
    (hfar : leafE zs root other = 0 → leafV zs root other ≠ leaf ∧ leafV zs root other ≠ root) :
    getE (linkL zs root page leaf) root other = getE zs root other ∧ getK (linkL zs root page leaf) root other = getK zs root other ∧ getN (linkL zs root page leaf) root other = getN zs root other := by
  obtain ⟨l1, l2⟩ := link_far h hl o0 o1 ho
  have ok := link_ok h
  have hL := ok.l
  unfold getE getK getN
  rw [l1, l2]
  by_cases hz : leafE zs root other = 0
  · obtain ⟨f1, f2⟩ := hfar hz
    rw [link_list h hl]
    unfold plcOk at hL
    obtain ⟨a1, a2, a3⟩ := fill_at_other (P := linkP zs root page leaf) (k := other % 8) hL.1 f1 (by omega)
    obtain ⟨b1, b2, b3⟩ := at_put_other (x := 256 * leaf + 1) ok.r (f := leafV zs root other) (k := other % 8) (.inl f2) (by omega)
    rw [a1, a2, a3]
    unfold linkP
    rw [b1, b2, b3]; exact ⟨rfl, rfl, rfl⟩
  · refine ⟨?_, by rw [if_neg hz, if_neg hz], by rw [if_neg hz, if_neg hz]⟩
    by_cases h3' : leafE zs root other = 3
    · rw [if_pos h3', if_pos h3']
    · rw [if_neg h3', if_pos hz, if_neg h3', if_pos hz]

set_option maxHeartbeats 4000000 in
theorem tableLink_0 {w : World} (A : Option Addr) (len c : Nat) (zs : List Int) (hz : Row .u8 w w.heap.size A len zs) (hn : len ≤ 140737488355328) (root page leaf other E : Int) (S : List Int) (H1 : Hid (∀ W A n c, Row .u8 W W.heap.size A n zs → n ≤ 140737488355328 → Calls Try.prog 27 #[.slice A n c, .int .i64 root, .int .i64 page, .int .i64 leaf] W (TLinkP E S W))) (HS : Hid (S = [])) (hE : (E != 0) = true) (hE1 : (E == 0) = false) :
    Calls Try.prog 9 #[.slice A len c, .int .i64 root, .int .i64 page, .int .i64 leaf, .int .i64 other] w fun e w' => e = .returned (.bool true) ∧ Below w.heap.size w w' := by
  have Rr0 := Lib.hid hz
  clear hz
  go_enter Try.func9, Try.ntmps9
  go_wp2_with fail
  refine (alive5_any _).mono ?_
  rintro e w1 ⟨rfl, hb1⟩
  have hv1 := hb1
  have hw1 : Below w.heap.size w w1 := hv1
  have Rr1 := Lib.hid (Rr0.out.any' hv1 (Nat.le_refl _))
  go_wp2_with fail
  refine (H1.out _ A len c (Rr1.out) hn).mono ?_
  rintro e w2 ⟨As, ns, cs, rfl, ho, hb2⟩
  have hv2 := hb2
  have hw2 : Below w.heap.size w w2 := hw1.trans (hv2.mono hw1.size)
  have Rr2 := Lib.hid (Rr1.out.any' hv2 (Nat.le_refl _))
  have hns := ho.1
  have Rs2 := Lib.hid (ho)
  have hns0 : ns = 0 := by rw [HS.out] at hns; exact hns.symm
  subst hns0
  clear hns ho
  go_wp2
  go_ret
  exact ⟨rfl, hw2⟩

set_option maxHeartbeats 4000000 in
theorem tableLink_1 {w : World} (A : Option Addr) (len c : Nat) (zs : List Int) (hz : Row .u8 w w.heap.size A len zs) (hn : len ≤ 140737488355328) (root page leaf other E : Int) (S : List Int) (H1 : Hid (∀ W A n c, Row .u8 W W.heap.size A n zs → n ≤ 140737488355328 → Calls Try.prog 27 #[.slice A n c, .int .i64 root, .int .i64 page, .int .i64 leaf] W (TLinkP E S W))) (hE : (E != 0) = false) (hE1 : (E == 0) = true) (hl : (len == 4096) = false) (hl2 : ((len : Int) != 4096) = true) (hl3 : ((len : Int) == 4096) = false) (hl4 : ¬ len = 4096) :
    Calls Try.prog 9 #[.slice A len c, .int .i64 root, .int .i64 page, .int .i64 leaf, .int .i64 other] w fun e w' => e = .returned (.bool true) ∧ Below w.heap.size w w' := by
  have Rr0 := Lib.hid hz
  clear hz
  go_enter Try.func9, Try.ntmps9
  go_wp2_with fail
  refine (alive5_any _).mono ?_
  rintro e w1 ⟨rfl, hb1⟩
  have hv1 := hb1
  have hw1 : Below w.heap.size w w1 := hv1
  have Rr1 := Lib.hid (Rr0.out.any' hv1 (Nat.le_refl _))
  go_wp2_with fail
  refine (H1.out _ A len c (Rr1.out) hn).mono ?_
  rintro e w2 ⟨As, ns, cs, rfl, ho, hb2⟩
  have hv2 := hb2
  have hw2 : Below w.heap.size w w2 := hw1.trans (hv2.mono hw1.size)
  have Rr2 := Lib.hid (Rr1.out.any' hv2 (Nat.le_refl _))
  have hns := ho.1
  have Rs2 := Lib.hid (ho)
  clear hns ho
  go_wp2
  all_goals go_ret
  all_goals exact ⟨rfl, hw2⟩

set_option maxHeartbeats 4000000 in
theorem tableLink_2 {w : World} (A : Option Addr) (len c : Nat) (zs : List Int) (hz : Row .u8 w w.heap.size A len zs) (hn : len ≤ 140737488355328) (root page leaf other E : Int) (S : List Int) (H1 : Hid (∀ W A n c, Row .u8 W W.heap.size A n zs → n ≤ 140737488355328 → Calls Try.prog 27 #[.slice A n c, .int .i64 root, .int .i64 page, .int .i64 leaf] W (TLinkP E S W))) (hE : (E != 0) = false) (hE1 : (E == 0) = true) (hl : ((len : Int) != 4096) = false) (hl3 : ((len : Int) == 4096) = true) (ho9 : other < 0 ∨ (0 ≤ other ∧ 64 ≤ other)) :
    Calls Try.prog 9 #[.slice A len c, .int .i64 root, .int .i64 page, .int .i64 leaf, .int .i64 other] w fun e w' => e = .returned (.bool true) ∧ Below w.heap.size w w' := by
  have Rr0 := Lib.hid hz
  clear hz
  go_enter Try.func9, Try.ntmps9
  go_wp2_with fail
  refine (alive5_any _).mono ?_
  rintro e w1 ⟨rfl, hb1⟩
  have hv1 := hb1
  have hw1 : Below w.heap.size w w1 := hv1
  have Rr1 := Lib.hid (Rr0.out.any' hv1 (Nat.le_refl _))
  go_wp2_with fail
  refine (H1.out _ A len c (Rr1.out) hn).mono ?_
  rintro e w2 ⟨As, ns, cs, rfl, ho, hb2⟩
  have hv2 := hb2
  have hw2 : Below w.heap.size w w2 := hw1.trans (hv2.mono hw1.size)
  have Rr2 := Lib.hid (Rr1.out.any' hv2 (Nat.le_refl _))
  have hns := ho.1
  have Rs2 := Lib.hid (ho)
  clear hns ho
  rcases ho9 with h9 | ⟨h8, h9⟩
  all_goals
    go_wp2
    all_goals go_ret
    all_goals exact ⟨rfl, hw2⟩

set_option maxHeartbeats 4000000 in
theorem tableLink_3 {w : World} (A : Option Addr) (len c : Nat) (zs : List Int) (hz : Row .u8 w w.heap.size A len zs) (hn : len ≤ 140737488355328) (root page leaf other E : Int) (S : List Int) (H1 : Hid (∀ W A n c, Row .u8 W W.heap.size A n zs → n ≤ 140737488355328 → Calls Try.prog 27 #[.slice A n c, .int .i64 root, .int .i64 page, .int .i64 leaf] W (TLinkP E S W))) (HSL : Hid (S.length ≤ 140737488355328)) (hE : (E != 0) = false) (hE1 : (E == 0) = true) (hl : ((len : Int) != 4096) = false) (hl3 : ((len : Int) == 4096) = true) (o0 : 0 ≤ other) (o1 : other < 64) (p0 : 0 ≤ page) (p1 : page < 64) (H2 : Hid (∀ W A n c, Row .u8 W W.heap.size A n S → n ≤ 140737488355328 → Calls Try.prog 21 #[.slice A n c, .int .i64 root, .int .i64 page] W fun e w' => e = .returned (.tuple #[.int .i64 leaf, .int .i64 0]) ∧ Below W.heap.size W w')) (H3 : Hid (∀ W A n c, Row .u8 W W.heap.size A n S → n ≤ 140737488355328 → Calls Try.prog 23 #[.slice A n c, .int .i64 root, .int .i64 other] W fun e w' => e = .returned (.tuple #[.agg #[.int .i64 0, .int .i64 0], .int .i64 0]) ∧ Below W.heap.size W w')) (g3 : (other / 8 == page / 8) = true) :
    Calls Try.prog 9 #[.slice A len c, .int .i64 root, .int .i64 page, .int .i64 leaf, .int .i64 other] w fun e w' => e = .returned (.bool true) ∧ Below w.heap.size w w' := by
  have Rr0 := Lib.hid hz
  clear hz
  go_enter Try.func9, Try.ntmps9
  go_wp2_with fail
  refine (alive5_any _).mono ?_
  rintro e w1 ⟨rfl, hb1⟩
  have hv1 := hb1
  have hw1 : Below w.heap.size w w1 := hv1
  have Rr1 := Lib.hid (Rr0.out.any' hv1 (Nat.le_refl _))
  go_wp2_with fail
  refine (H1.out _ A len c (Rr1.out) hn).mono ?_
  rintro e w2 ⟨As, ns, cs, rfl, ho, hb2⟩
  have hv2 := hb2
  have hw2 : Below w.heap.size w w2 := hw1.trans (hv2.mono hw1.size)
  have Rr2 := Lib.hid (Rr1.out.any' hv2 (Nat.le_refl _))
  have hns := ho.1
  have Rs2 := Lib.hid (ho)
  have hns2 : ns ≤ 140737488355328 := by rw [← hns]; exact HSL.out
  clear hns ho
  go_wp2_with fail
  refine (H2.out _ As ns cs (Rs2.out) hns2).mono ?_
  rintro e w3 ⟨rfl, hb3⟩
  have hv3 := hb3
  have hw3 : Below w.heap.size w w3 := hw2.trans (hv3.mono hw2.size)
  have Rr3 := Lib.hid (Rr2.out.any' hv3 (Nat.le_refl _))
  have Rs3 := Lib.hid (Rs2.out.any' hv3 (Nat.le_refl _))
  go_wp2_with fail
  refine (H3.out _ As ns cs (Rs3.out) hns2).mono ?_
  rintro e w4 ⟨rfl, hb4⟩
  have hv4 := hb4
  have hw4 : Below w.heap.size w w4 := hw3.trans (hv4.mono hw3.size)
  have Rr4 := Lib.hid (Rr3.out.any' hv4 (Nat.le_refl _))
  have Rs4 := Lib.hid (Rs3.out.any' hv4 (Nat.le_refl _))
  go_wp2
  all_goals go_ret
  all_goals exact ⟨rfl, (hw4.alloc (Nat.le_trans hw4.size (by simp)) _)⟩

set_option maxHeartbeats 4000000 in
theorem tableLink_4 {w : World} (A : Option Addr) (len c : Nat) (zs : List Int) (hz : Row .u8 w w.heap.size A len zs) (hn : len ≤ 140737488355328) (root page leaf other E : Int) (S : List Int) (H1 : Hid (∀ W A n c, Row .u8 W W.heap.size A n zs → n ≤ 140737488355328 → Calls Try.prog 27 #[.slice A n c, .int .i64 root, .int .i64 page, .int .i64 leaf] W (TLinkP E S W))) (HSL : Hid (S.length ≤ 140737488355328)) (hE : (E != 0) = false) (hE1 : (E == 0) = true) (hl : ((len : Int) != 4096) = false) (hl3 : ((len : Int) == 4096) = true) (o0 : 0 ≤ other) (o1 : other < 64) (p0 : 0 ≤ page) (p1 : page < 64) (H2 : Hid (∀ W A n c, Row .u8 W W.heap.size A n S → n ≤ 140737488355328 → Calls Try.prog 21 #[.slice A n c, .int .i64 root, .int .i64 page] W fun e w' => e = .returned (.tuple #[.int .i64 leaf, .int .i64 0]) ∧ Below W.heap.size W w')) (P Q G V E2 : Int) (H3 : Hid (∀ W A n c, Row .u8 W W.heap.size A n S → n ≤ 140737488355328 → Calls Try.prog 23 #[.slice A n c, .int .i64 root, .int .i64 other] W fun e w' => e = .returned (.tuple #[.agg #[.int .i64 P, .int .i64 Q], .int .i64 G]) ∧ Below W.heap.size W w')) (H4 : Hid (∀ W A n c, Row .u8 W W.heap.size A n zs → n ≤ 140737488355328 → Calls Try.prog 21 #[.slice A n c, .int .i64 root, .int .i64 other] W fun e w' => e = .returned (.tuple #[.int .i64 V, .int .i64 E2]) ∧ Below W.heap.size W w')) (g3 : (other / 8 == page / 8) = false) (g1 : (E2 == 0) = true) (g2 : (V == leaf) = true) :
    Calls Try.prog 9 #[.slice A len c, .int .i64 root, .int .i64 page, .int .i64 leaf, .int .i64 other] w fun e w' => e = .returned (.bool true) ∧ Below w.heap.size w w' := by
  have Rr0 := Lib.hid hz
  clear hz
  go_enter Try.func9, Try.ntmps9
  go_wp2_with fail
  refine (alive5_any _).mono ?_
  rintro e w1 ⟨rfl, hb1⟩
  have hv1 := hb1
  have hw1 : Below w.heap.size w w1 := hv1
  have Rr1 := Lib.hid (Rr0.out.any' hv1 (Nat.le_refl _))
  go_wp2_with fail
  refine (H1.out _ A len c (Rr1.out) hn).mono ?_
  rintro e w2 ⟨As, ns, cs, rfl, ho, hb2⟩
  have hv2 := hb2
  have hw2 : Below w.heap.size w w2 := hw1.trans (hv2.mono hw1.size)
  have Rr2 := Lib.hid (Rr1.out.any' hv2 (Nat.le_refl _))
  have hns := ho.1
  have Rs2 := Lib.hid (ho)
  have hns2 : ns ≤ 140737488355328 := by rw [← hns]; exact HSL.out
  clear hns ho
  go_wp2_with fail
  refine (H2.out _ As ns cs (Rs2.out) hns2).mono ?_
  rintro e w3 ⟨rfl, hb3⟩
  have hv3 := hb3
  have hw3 : Below w.heap.size w w3 := hw2.trans (hv3.mono hw2.size)
  have Rr3 := Lib.hid (Rr2.out.any' hv3 (Nat.le_refl _))
  have Rs3 := Lib.hid (Rs2.out.any' hv3 (Nat.le_refl _))
  go_wp2_with fail
  refine (H3.out _ As ns cs (Rs3.out) hns2).mono ?_
  rintro e w4 ⟨rfl, hb4⟩
  have hv4 := hb4
  have hw4 : Below w.heap.size w w4 := hw3.trans (hv4.mono hw3.size)
  have Rr4 := Lib.hid (Rr3.out.any' hv4 (Nat.le_refl _))
  have Rs4 := Lib.hid (Rs3.out.any' hv4 (Nat.le_refl _))
  go_wp2_with fail
  refine (H4.out _ A len c ((Rr4.out.any' ((Below.refl _ _).alloc (Nat.le_refl _) (.cells #[.int .i64 P, .int .i64 Q] 36)) (Nat.le_refl _))) hn).mono ?_
  rintro e w5 ⟨rfl, hb5⟩
  simp only [World.size_alloc] at hb5
  have hv5 : Below w4.heap.size w4 w5 := ((Below.refl w4.heap.size w4).alloc (by simp) _).trans (hb5.mono (by omega))
  have hw5 : Below w.heap.size w w5 := hw4.trans (hv5.mono hw4.size)
  have Ky5z := heap_alloc_new w4 (.cells #[.int .i64 P, .int .i64 Q] 36)
  have Ky5 := Lib.hid (blk_on Ky5z (by simpa using hb5))
  have xy5 : ∀ o, w5.cell? ⟨w4.heap.size, o, none⟩ = (#[.int .i64 P, .int .i64 Q] : Array Value)[o]? := fun o => blk_cell Ky5.out o
  have ly5 : w4.heap.size < w5.heap.size := blk_lt Ky5.out
  clear Ky5z
  have Rr5 := Lib.hid (Rr4.out.any' hv5 (Nat.le_refl _))
  have Rs5 := Lib.hid (Rs4.out.any' hv5 (Nat.le_refl _))
  go_wp2
  all_goals go_ret
  all_goals exact ⟨rfl, hw5⟩

set_option maxHeartbeats 4000000 in
theorem tableLink_5 {w : World} (A : Option Addr) (len c : Nat) (zs : List Int) (hz : Row .u8 w w.heap.size A len zs) (hn : len ≤ 140737488355328) (root page leaf other E : Int) (S : List Int) (H1 : Hid (∀ W A n c, Row .u8 W W.heap.size A n zs → n ≤ 140737488355328 → Calls Try.prog 27 #[.slice A n c, .int .i64 root, .int .i64 page, .int .i64 leaf] W (TLinkP E S W))) (HSL : Hid (S.length ≤ 140737488355328)) (hE : (E != 0) = false) (hE1 : (E == 0) = true) (hl : ((len : Int) != 4096) = false) (hl3 : ((len : Int) == 4096) = true) (o0 : 0 ≤ other) (o1 : other < 64) (p0 : 0 ≤ page) (p1 : page < 64) (H2 : Hid (∀ W A n c, Row .u8 W W.heap.size A n S → n ≤ 140737488355328 → Calls Try.prog 21 #[.slice A n c, .int .i64 root, .int .i64 page] W fun e w' => e = .returned (.tuple #[.int .i64 leaf, .int .i64 0]) ∧ Below W.heap.size W w')) (P Q G V E2 : Int) (H3 : Hid (∀ W A n c, Row .u8 W W.heap.size A n S → n ≤ 140737488355328 → Calls Try.prog 23 #[.slice A n c, .int .i64 root, .int .i64 other] W fun e w' => e = .returned (.tuple #[.agg #[.int .i64 P, .int .i64 Q], .int .i64 G]) ∧ Below W.heap.size W w')) (H4 : Hid (∀ W A n c, Row .u8 W W.heap.size A n zs → n ≤ 140737488355328 → Calls Try.prog 21 #[.slice A n c, .int .i64 root, .int .i64 other] W fun e w' => e = .returned (.tuple #[.int .i64 V, .int .i64 E2]) ∧ Below W.heap.size W w')) (g3 : (other / 8 == page / 8) = false) (g1 : (E2 == 0) = true) (g2 : (V == leaf) = false) (g4 : (V == root) = true) :
    Calls Try.prog 9 #[.slice A len c, .int .i64 root, .int .i64 page, .int .i64 leaf, .int .i64 other] w fun e w' => e = .returned (.bool true) ∧ Below w.heap.size w w' := by
  have Rr0 := Lib.hid hz
  clear hz
  go_enter Try.func9, Try.ntmps9
  go_wp2_with fail
  refine (alive5_any _).mono ?_
  rintro e w1 ⟨rfl, hb1⟩
  have hv1 := hb1
  have hw1 : Below w.heap.size w w1 := hv1
  have Rr1 := Lib.hid (Rr0.out.any' hv1 (Nat.le_refl _))
  go_wp2_with fail
  refine (H1.out _ A len c (Rr1.out) hn).mono ?_
  rintro e w2 ⟨As, ns, cs, rfl, ho, hb2⟩
  have hv2 := hb2
  have hw2 : Below w.heap.size w w2 := hw1.trans (hv2.mono hw1.size)
  have Rr2 := Lib.hid (Rr1.out.any' hv2 (Nat.le_refl _))
  have hns := ho.1
  have Rs2 := Lib.hid (ho)
  have hns2 : ns ≤ 140737488355328 := by rw [← hns]; exact HSL.out
  clear hns ho
  go_wp2_with fail
  refine (H2.out _ As ns cs (Rs2.out) hns2).mono ?_
  rintro e w3 ⟨rfl, hb3⟩
  have hv3 := hb3
  have hw3 : Below w.heap.size w w3 := hw2.trans (hv3.mono hw2.size)
  have Rr3 := Lib.hid (Rr2.out.any' hv3 (Nat.le_refl _))
  have Rs3 := Lib.hid (Rs2.out.any' hv3 (Nat.le_refl _))
  go_wp2_with fail
  refine (H3.out _ As ns cs (Rs3.out) hns2).mono ?_
  rintro e w4 ⟨rfl, hb4⟩
  have hv4 := hb4
  have hw4 : Below w.heap.size w w4 := hw3.trans (hv4.mono hw3.size)
  have Rr4 := Lib.hid (Rr3.out.any' hv4 (Nat.le_refl _))
  have Rs4 := Lib.hid (Rs3.out.any' hv4 (Nat.le_refl _))
  go_wp2_with fail
  refine (H4.out _ A len c ((Rr4.out.any' ((Below.refl _ _).alloc (Nat.le_refl _) (.cells #[.int .i64 P, .int .i64 Q] 36)) (Nat.le_refl _))) hn).mono ?_
  rintro e w5 ⟨rfl, hb5⟩
  simp only [World.size_alloc] at hb5
  have hv5 : Below w4.heap.size w4 w5 := ((Below.refl w4.heap.size w4).alloc (by simp) _).trans (hb5.mono (by omega))
  have hw5 : Below w.heap.size w w5 := hw4.trans (hv5.mono hw4.size)
  have Ky5z := heap_alloc_new w4 (.cells #[.int .i64 P, .int .i64 Q] 36)
  have Ky5 := Lib.hid (blk_on Ky5z (by simpa using hb5))
  have xy5 : ∀ o, w5.cell? ⟨w4.heap.size, o, none⟩ = (#[.int .i64 P, .int .i64 Q] : Array Value)[o]? := fun o => blk_cell Ky5.out o
  have ly5 : w4.heap.size < w5.heap.size := blk_lt Ky5.out
  clear Ky5z
  have Rr5 := Lib.hid (Rr4.out.any' hv5 (Nat.le_refl _))
  have Rs5 := Lib.hid (Rs4.out.any' hv5 (Nat.le_refl _))
  go_wp2
  all_goals go_ret
  all_goals exact ⟨rfl, hw5⟩

set_option maxHeartbeats 4000000 in
theorem tableLink_6 {w : World} (A : Option Addr) (len c : Nat) (zs : List Int) (hz : Row .u8 w w.heap.size A len zs) (hn : len ≤ 140737488355328) (root page leaf other E : Int) (S : List Int) (H1 : Hid (∀ W A n c, Row .u8 W W.heap.size A n zs → n ≤ 140737488355328 → Calls Try.prog 27 #[.slice A n c, .int .i64 root, .int .i64 page, .int .i64 leaf] W (TLinkP E S W))) (HSL : Hid (S.length ≤ 140737488355328)) (hE : (E != 0) = false) (hE1 : (E == 0) = true) (hl : ((len : Int) != 4096) = false) (hl3 : ((len : Int) == 4096) = true) (o0 : 0 ≤ other) (o1 : other < 64) (p0 : 0 ≤ page) (p1 : page < 64) (H2 : Hid (∀ W A n c, Row .u8 W W.heap.size A n S → n ≤ 140737488355328 → Calls Try.prog 21 #[.slice A n c, .int .i64 root, .int .i64 page] W fun e w' => e = .returned (.tuple #[.int .i64 leaf, .int .i64 0]) ∧ Below W.heap.size W w')) (P Q G V E2 : Int) (H3 : Hid (∀ W A n c, Row .u8 W W.heap.size A n S → n ≤ 140737488355328 → Calls Try.prog 23 #[.slice A n c, .int .i64 root, .int .i64 other] W fun e w' => e = .returned (.tuple #[.agg #[.int .i64 P, .int .i64 Q], .int .i64 G]) ∧ Below W.heap.size W w')) (H4 : Hid (∀ W A n c, Row .u8 W W.heap.size A n zs → n ≤ 140737488355328 → Calls Try.prog 21 #[.slice A n c, .int .i64 root, .int .i64 other] W fun e w' => e = .returned (.tuple #[.int .i64 V, .int .i64 E2]) ∧ Below W.heap.size W w')) (g3 : (other / 8 == page / 8) = false) (H5 : Hid (∀ W A n c, Row .u8 W W.heap.size A n zs → n ≤ 140737488355328 → Calls Try.prog 23 #[.slice A n c, .int .i64 root, .int .i64 other] W fun e w' => e = .returned (.tuple #[.agg #[.int .i64 P, .int .i64 Q], .int .i64 G]) ∧ Below W.heap.size W w')) (g1 : (E2 == 0) = false) :
    Calls Try.prog 9 #[.slice A len c, .int .i64 root, .int .i64 page, .int .i64 leaf, .int .i64 other] w fun e w' => e = .returned (.bool true) ∧ Below w.heap.size w w' := by
  have Rr0 := Lib.hid hz
  clear hz
  go_enter Try.func9, Try.ntmps9
  go_wp2_with fail
  refine (alive5_any _).mono ?_
  rintro e w1 ⟨rfl, hb1⟩
  have hv1 := hb1
  have hw1 : Below w.heap.size w w1 := hv1
  have Rr1 := Lib.hid (Rr0.out.any' hv1 (Nat.le_refl _))
  go_wp2_with fail
  refine (H1.out _ A len c (Rr1.out) hn).mono ?_
  rintro e w2 ⟨As, ns, cs, rfl, ho, hb2⟩
  have hv2 := hb2
  have hw2 : Below w.heap.size w w2 := hw1.trans (hv2.mono hw1.size)
  have Rr2 := Lib.hid (Rr1.out.any' hv2 (Nat.le_refl _))
  have hns := ho.1
  have Rs2 := Lib.hid (ho)
  have hns2 : ns ≤ 140737488355328 := by rw [← hns]; exact HSL.out
  clear hns ho
  go_wp2_with fail
  refine (H2.out _ As ns cs (Rs2.out) hns2).mono ?_
  rintro e w3 ⟨rfl, hb3⟩
  have hv3 := hb3
  have hw3 : Below w.heap.size w w3 := hw2.trans (hv3.mono hw2.size)
  have Rr3 := Lib.hid (Rr2.out.any' hv3 (Nat.le_refl _))
  have Rs3 := Lib.hid (Rs2.out.any' hv3 (Nat.le_refl _))
  go_wp2_with fail
  refine (H3.out _ As ns cs (Rs3.out) hns2).mono ?_
  rintro e w4 ⟨rfl, hb4⟩
  have hv4 := hb4
  have hw4 : Below w.heap.size w w4 := hw3.trans (hv4.mono hw3.size)
  have Rr4 := Lib.hid (Rr3.out.any' hv4 (Nat.le_refl _))
  have Rs4 := Lib.hid (Rs3.out.any' hv4 (Nat.le_refl _))
  go_wp2_with fail
  refine (H4.out _ A len c ((Rr4.out.any' ((Below.refl _ _).alloc (Nat.le_refl _) (.cells #[.int .i64 P, .int .i64 Q] 36)) (Nat.le_refl _))) hn).mono ?_
  rintro e w5 ⟨rfl, hb5⟩
  simp only [World.size_alloc] at hb5
  have hv5 : Below w4.heap.size w4 w5 := ((Below.refl w4.heap.size w4).alloc (by simp) _).trans (hb5.mono (by omega))
  have hw5 : Below w.heap.size w w5 := hw4.trans (hv5.mono hw4.size)
  have Ky5z := heap_alloc_new w4 (.cells #[.int .i64 P, .int .i64 Q] 36)
  have Ky5 := Lib.hid (blk_on Ky5z (by simpa using hb5))
  have xy5 : ∀ o, w5.cell? ⟨w4.heap.size, o, none⟩ = (#[.int .i64 P, .int .i64 Q] : Array Value)[o]? := fun o => blk_cell Ky5.out o
  have ly5 : w4.heap.size < w5.heap.size := blk_lt Ky5.out
  clear Ky5z
  have Rr5 := Lib.hid (Rr4.out.any' hv5 (Nat.le_refl _))
  have Rs5 := Lib.hid (Rs4.out.any' hv5 (Nat.le_refl _))
  go_wp2_with fail
  refine (H5.out _ A len c (Rr5.out) hn).mono ?_
  rintro e w6 ⟨rfl, hb6⟩
  have hv6 := hb6
  have hw6 : Below w.heap.size w w6 := hw5.trans (hv6.mono hw5.size)
  have Ky6 := Lib.hid (blk_on Ky5.out hv6)
  have xy6 : ∀ o, w6.cell? ⟨w4.heap.size, o, none⟩ = (#[.int .i64 P, .int .i64 Q] : Array Value)[o]? := fun o => blk_cell Ky6.out o
  have ly6 : w4.heap.size < w6.heap.size := blk_lt Ky6.out
  clear xy5 ly5
  have Rr6 := Lib.hid (Rr5.out.any' hv6 (Nat.le_refl _))
  have Rs6 := Lib.hid (Rs5.out.any' hv6 (Nat.le_refl _))
  go_wp2
  all_goals go_ret
  all_goals exact ⟨rfl, (hw6.alloc (Nat.le_trans hw6.size (by simp)) _)⟩

set_option maxHeartbeats 4000000 in
theorem tableLink_7 {w : World} (A : Option Addr) (len c : Nat) (zs : List Int) (hz : Row .u8 w w.heap.size A len zs) (hn : len ≤ 140737488355328) (root page leaf other E : Int) (S : List Int) (H1 : Hid (∀ W A n c, Row .u8 W W.heap.size A n zs → n ≤ 140737488355328 → Calls Try.prog 27 #[.slice A n c, .int .i64 root, .int .i64 page, .int .i64 leaf] W (TLinkP E S W))) (HSL : Hid (S.length ≤ 140737488355328)) (hE : (E != 0) = false) (hE1 : (E == 0) = true) (hl : ((len : Int) != 4096) = false) (hl3 : ((len : Int) == 4096) = true) (o0 : 0 ≤ other) (o1 : other < 64) (p0 : 0 ≤ page) (p1 : page < 64) (H2 : Hid (∀ W A n c, Row .u8 W W.heap.size A n S → n ≤ 140737488355328 → Calls Try.prog 21 #[.slice A n c, .int .i64 root, .int .i64 page] W fun e w' => e = .returned (.tuple #[.int .i64 leaf, .int .i64 0]) ∧ Below W.heap.size W w')) (P Q G V E2 : Int) (H3 : Hid (∀ W A n c, Row .u8 W W.heap.size A n S → n ≤ 140737488355328 → Calls Try.prog 23 #[.slice A n c, .int .i64 root, .int .i64 other] W fun e w' => e = .returned (.tuple #[.agg #[.int .i64 P, .int .i64 Q], .int .i64 G]) ∧ Below W.heap.size W w')) (H4 : Hid (∀ W A n c, Row .u8 W W.heap.size A n zs → n ≤ 140737488355328 → Calls Try.prog 21 #[.slice A n c, .int .i64 root, .int .i64 other] W fun e w' => e = .returned (.tuple #[.int .i64 V, .int .i64 E2]) ∧ Below W.heap.size W w')) (g3 : (other / 8 == page / 8) = false) (H5 : Hid (∀ W A n c, Row .u8 W W.heap.size A n zs → n ≤ 140737488355328 → Calls Try.prog 23 #[.slice A n c, .int .i64 root, .int .i64 other] W fun e w' => e = .returned (.tuple #[.agg #[.int .i64 P, .int .i64 Q], .int .i64 G]) ∧ Below W.heap.size W w')) (g1 : (E2 == 0) = true) (g2 : (V == leaf) = false) (g4 : (V == root) = false) :
    Calls Try.prog 9 #[.slice A len c, .int .i64 root, .int .i64 page, .int .i64 leaf, .int .i64 other] w fun e w' => e = .returned (.bool true) ∧ Below w.heap.size w w' := by
  have Rr0 := Lib.hid hz
  clear hz
  go_enter Try.func9, Try.ntmps9
  go_wp2_with fail
  refine (alive5_any _).mono ?_
  rintro e w1 ⟨rfl, hb1⟩
  have hv1 := hb1
  have hw1 : Below w.heap.size w w1 := hv1
  have Rr1 := Lib.hid (Rr0.out.any' hv1 (Nat.le_refl _))
  go_wp2_with fail
  refine (H1.out _ A len c (Rr1.out) hn).mono ?_
  rintro e w2 ⟨As, ns, cs, rfl, ho, hb2⟩
  have hv2 := hb2
  have hw2 : Below w.heap.size w w2 := hw1.trans (hv2.mono hw1.size)
  have Rr2 := Lib.hid (Rr1.out.any' hv2 (Nat.le_refl _))
  have hns := ho.1
  have Rs2 := Lib.hid (ho)
  have hns2 : ns ≤ 140737488355328 := by rw [← hns]; exact HSL.out
  clear hns ho
  go_wp2_with fail
  refine (H2.out _ As ns cs (Rs2.out) hns2).mono ?_
  rintro e w3 ⟨rfl, hb3⟩
  have hv3 := hb3
  have hw3 : Below w.heap.size w w3 := hw2.trans (hv3.mono hw2.size)
  have Rr3 := Lib.hid (Rr2.out.any' hv3 (Nat.le_refl _))
  have Rs3 := Lib.hid (Rs2.out.any' hv3 (Nat.le_refl _))
  go_wp2_with fail
  refine (H3.out _ As ns cs (Rs3.out) hns2).mono ?_
  rintro e w4 ⟨rfl, hb4⟩
  have hv4 := hb4
  have hw4 : Below w.heap.size w w4 := hw3.trans (hv4.mono hw3.size)
  have Rr4 := Lib.hid (Rr3.out.any' hv4 (Nat.le_refl _))
  have Rs4 := Lib.hid (Rs3.out.any' hv4 (Nat.le_refl _))
  go_wp2_with fail
  refine (H4.out _ A len c ((Rr4.out.any' ((Below.refl _ _).alloc (Nat.le_refl _) (.cells #[.int .i64 P, .int .i64 Q] 36)) (Nat.le_refl _))) hn).mono ?_
  rintro e w5 ⟨rfl, hb5⟩
  simp only [World.size_alloc] at hb5
  have hv5 : Below w4.heap.size w4 w5 := ((Below.refl w4.heap.size w4).alloc (by simp) _).trans (hb5.mono (by omega))
  have hw5 : Below w.heap.size w w5 := hw4.trans (hv5.mono hw4.size)
  have Ky5z := heap_alloc_new w4 (.cells #[.int .i64 P, .int .i64 Q] 36)
  have Ky5 := Lib.hid (blk_on Ky5z (by simpa using hb5))
  have xy5 : ∀ o, w5.cell? ⟨w4.heap.size, o, none⟩ = (#[.int .i64 P, .int .i64 Q] : Array Value)[o]? := fun o => blk_cell Ky5.out o
  have ly5 : w4.heap.size < w5.heap.size := blk_lt Ky5.out
  clear Ky5z
  have Rr5 := Lib.hid (Rr4.out.any' hv5 (Nat.le_refl _))
  have Rs5 := Lib.hid (Rs4.out.any' hv5 (Nat.le_refl _))
  go_wp2_with fail
  refine (H5.out _ A len c (Rr5.out) hn).mono ?_
  rintro e w6 ⟨rfl, hb6⟩
  have hv6 := hb6
  have hw6 : Below w.heap.size w w6 := hw5.trans (hv6.mono hw5.size)
  have Ky6 := Lib.hid (blk_on Ky5.out hv6)
  have xy6 : ∀ o, w6.cell? ⟨w4.heap.size, o, none⟩ = (#[.int .i64 P, .int .i64 Q] : Array Value)[o]? := fun o => blk_cell Ky6.out o
  have ly6 : w4.heap.size < w6.heap.size := blk_lt Ky6.out
  clear xy5 ly5
  have Rr6 := Lib.hid (Rr5.out.any' hv6 (Nat.le_refl _))
  have Rs6 := Lib.hid (Rs5.out.any' hv6 (Nat.le_refl _))
  go_wp2
  all_goals go_ret
  all_goals exact ⟨rfl, (hw6.alloc (Nat.le_trans hw6.size (by simp)) _)⟩

theorem tableLink_walk {w : World} (A : Option Addr) (len c : Nat) (zs : List Int) (hz : Row .u8 w w.heap.size A len zs) (hwf : ∀ z ∈ zs, (Lit.int .u8 z).wf = true) (hlc : len ≤ c) (_ : c ≤ maxLen) (hbig : c ≤ 140737488351232) (root : Int) (_ : I64 root) (page : Int) (_ : I64 page) (leaf : Int) (_ : I64 leaf) (other : Int) (_ : I64 other) :
    Calls Try.prog 9 #[.slice A len c, .int .i64 root, .int .i64 page, .int .i64 leaf, .int .i64 other] w fun e w' => e = .returned (.bool true) ∧ Below w.heap.size w w' := by
  have hb : Bytes zs := bytes_of_wf hwf
  have hn : len ≤ 140737488355328 := by omega
  have H1 := Lib.hid (fun W A n c hr hn => link_any A n c zs root page leaf W W.heap.size hr (Nat.le_refl _) hb hn)
  by_cases h : linkE zs root page leaf = 0
  · rw [h] at H1
    by_cases hl : len = 4096
    · by_cases hoth : other < 0 ∨ 64 ≤ other
      · exact tableLink_2 A len c zs hz hn root page leaf other 0 _ H1 rfl rfl (by simp [hl]) (by simp [hl]) (by omega)
      · have hl2 : zs.length = 4096 := by rw [hz.1]; exact hl
        have ok := link_ok h
        have o0 : 0 ≤ other := by omega
        have o1 : other < 64 := by omega
        have hS := linkL_bytes hb root page leaf
        have hSL : Hid ((linkL zs root page leaf).length ≤ 140737488355328) := Lib.hid (Nat.le_trans (linkL_len _ _ _ _) (by omega))
        obtain ⟨e1, e2⟩ := link_leaf h hl2 ok.p0 ok.p1 rfl
        have H2 := Lib.hid (fun W A n c hr hn => leaf_any A n c (linkL zs root page leaf) root page W W.heap.size hr (Nat.le_refl _) hS hn)
        rw [e1, e2] at H2
        have H3 := Lib.hid (fun W A n c hr hn => tget_any A n c (linkL zs root page leaf) root other W W.heap.size hr (Nat.le_refl _) hS hn)
        by_cases c1 : other / 8 = page / 8
        · obtain ⟨d1, d2, d3⟩ := link_empty h hl2 o0 o1 c1
          rw [d1, d2, d3] at H3
          exact tableLink_3 A len c zs hz hn root page leaf other 0 _ H1 hSL rfl rfl (by simp [hl]) (by simp [hl]) o0 o1 ok.p0 ok.p1 H2 H3 (by simp [c1])
        · have H4 := Lib.hid (fun W A n c hr hn => leaf_any A n c zs root other W W.heap.size hr (Nat.le_refl _) hb hn)
          have H5 := Lib.hid (fun W A n c hr hn => tget_any A n c zs root other W W.heap.size hr (Nat.le_refl _) hb hn)
          have g3 : (other / 8 == page / 8) = false := by simp [c1]
          by_cases c2 : leafE zs root other = 0
          · by_cases c3 : leafV zs root other = leaf
            · exact tableLink_4 A len c zs hz hn root page leaf other 0 _ H1 hSL rfl rfl (by simp [hl]) (by simp [hl]) o0 o1 ok.p0 ok.p1 H2 _ _ _ _ _ H3 H4 g3 (by simp [c2]) (by simp [c3])
            · by_cases c4 : leafV zs root other = root
              · exact tableLink_5 A len c zs hz hn root page leaf other 0 _ H1 hSL rfl rfl (by simp [hl]) (by simp [hl]) o0 o1 ok.p0 ok.p1 H2 _ _ _ _ _ H3 H4 g3 (by simp [c2]) (by simp [c3]) (by simp [c4])
              · obtain ⟨d1, d2, d3⟩ := link_other h hl2 o0 o1 c1 (fun _ => ⟨c3, c4⟩)
                rw [d1, d2, d3] at H3
                exact tableLink_7 A len c zs hz hn root page leaf other 0 _ H1 hSL rfl rfl (by simp [hl]) (by simp [hl]) o0 o1 ok.p0 ok.p1 H2 _ _ _ _ _ H3 H4 g3 H5 (by simp [c2]) (by simp [c3]) (by simp [c4])
          · obtain ⟨d1, d2, d3⟩ := link_other h hl2 o0 o1 c1 (fun e => absurd e c2)
            rw [d1, d2, d3] at H3
            exact tableLink_6 A len c zs hz hn root page leaf other 0 _ H1 hSL rfl rfl (by simp [hl]) (by simp [hl]) o0 o1 ok.p0 ok.p1 H2 _ _ _ _ _ H3 H4 g3 H5 (by simp [c2])
    · exact tableLink_1 A len c zs hz hn root page leaf other 0 _ H1 rfl rfl (by simp [hl]) (by rw [bne_iff_ne]; omega) (by simp; omega) hl
  · exact tableLink_0 A len c zs hz hn root page leaf other _ _ H1 (Lib.hid (by unfold linkL; rw [if_neg h])) (by simp [h]) (by simp [h])
end Go.Proofs.Ytidfngplhjegpaa
