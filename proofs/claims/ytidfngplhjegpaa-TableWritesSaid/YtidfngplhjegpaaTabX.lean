/- TableWrites: its walk. -/
import Derived.Test.YtidfngplhjegpaaTabN
namespace Go.Proofs.Ytidfngplhjegpaa
open Go.RowKit
set_option linter.unusedVariables false

set_option maxHeartbeats 4000000 in
theorem tableWrites_walk {w : World} (A : Option Addr) (len c : Nat) (zs : List Int) (hz : Row .u8 w w.heap.size A len zs) (hwf : ∀ z ∈ zs, (Lit.int .u8 z).wf = true) (hlc : len ≤ c) (_ : c ≤ maxLen) (hbig : c ≤ 140737488351232) (root : Int) (hr : I64 root) (page : Int) (_ : I64 page) (K : Int) (_ : I64 K) (N : Int) (_ : I64 N) (leaf : Int) (hlf : I64 leaf) :
    Calls Try.prog 7 #[.slice A len c, .int .i64 root, .int .i64 page, .agg #[.int .i64 K, .int .i64 N], .int .i64 leaf] w fun e w' => e = .returned (.bool true) ∧ Below w.heap.size w w' := by
  have hb : Bytes zs := bytes_of_wf hwf
  have H1 := Lib.hid (fun W (hW : Below w.heap.size w W) => tPut_any A len c zs root page K N W _ (hz.below hW) hW.size hb (by omega))
  have H2 := Lib.hid (fun W (hW : Below w.heap.size w W) => ePut_any A len c zs root page K N W _ (hz.below hW) hW.size hb (by omega) hr)
  have H3 := Lib.hid (fun W (hW : Below w.heap.size w W) => link_any A len c zs root page leaf W _ (hz.below hW) hW.size hb (by omega))
  have H4 := Lib.hid (fun W (hW : Below w.heap.size w W) => elink_any A len c zs root page leaf W (hz.any' hW (Nat.le_refl _)) hb (by omega) hr hlf)
  generalize tputE zs root page K N = E at *
  generalize tputL zs root page K N = P at *
  generalize linkE zs root page leaf = F at *
  generalize linkL zs root page leaf = Q at *
  clear hb hz hwf
  go_enter Try.func7, Try.ntmps7
  go_wp2_with fail
  refine (H1.out _ ((Below.refl _ _).alloc (Nat.le_refl _) _)).mono ?_
  rintro e w1 ⟨A1, n1, c1, rfl, ho1, hb1⟩
  obtain ⟨hc1, hn1, hz1⟩ := step1 hb1
  simp only [World.size_alloc] at hb1
  have hw1 : Below w.heap.size w w1 := ((Below.refl _ _).alloc (Nat.le_refl _) _).trans (hb1.mono (by omega))
  have HO1 := Lib.hid ho1.row
  clear ho1
  go_wp2_with fail
  refine (H2.out _ hw1).mono ?_
  rintro e w2 ⟨A2, n2, c2, rfl, ho2, hb2⟩
  have hw2 := hw1.trans (hb2.mono hw1.size)
  have HO2 := Lib.hid ho2.row
  clear ho2
  go_wp2_with fail
  refine (H3.out _ hw2).mono ?_
  rintro e w3 ⟨A3, n3, c3, rfl, ho3, hb3⟩
  have hw3 := hw2.trans (hb3.mono hw2.size)
  have HO3 := Lib.hid ho3
  clear ho3
  go_wp2_with fail
  refine (H4.out _ hw3).mono ?_
  rintro e w4 ⟨A4, n4, c4, rfl, ho4, hb4⟩
  have hw4 := hw3.trans (hb4.mono hw3.size)
  have HO4 := Lib.hid ho4
  clear ho4
  have s1 := conv_row (c := c1) ((((HO1.out.any' hb2 (Nat.le_refl _)).any' hb3 (Nat.le_refl _))).any' hb4 (Nat.le_refl _))
  have s2 := conv_row (c := c2) (((HO2.out.any' hb3 (Nat.le_refl _))).any' hb4 (Nat.le_refl _))
  have s3 := conv_row (c := c3) (HO3.out.any' hb4 (Nat.le_refl _))
  have s4 := conv_row (c := c4) HO4.out
  generalize strOfNums P = sp at *
  generalize strOfNums Q = sq at *
  go_wp2
  all_goals go_ret
  all_goals exact ⟨rfl, hw4⟩
end Go.Proofs.Ytidfngplhjegpaa
