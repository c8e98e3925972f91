/- TableReads: its walk. -/
import Derived.Test.YtidfngplhjegpaaTabG
import Derived.Test.YtidfngplhjegpaaText
namespace Go.Proofs.Ytidfngplhjegpaa
open Go.RowKit
set_option linter.unusedVariables false

set_option maxHeartbeats 4000000 in
theorem tableReads_walk {w : World} (A : Option Addr) (len c : Nat) (zs : List Int) (hz : Row .u8 w w.heap.size A len zs) (hwf : ∀ z ∈ zs, (Lit.int .u8 z).wf = true) (hlc : len ≤ c) (_ : c ≤ maxLen) (hbig : c ≤ 140737488351232) (root : Int) (hr : I64 root) (page : Int) (_ : I64 page) :
    Calls Try.prog 6 #[.slice A len c, .int .i64 root, .int .i64 page] w fun e w' => e = .returned (.bool true) ∧ Below w.heap.size w w' := by
  have hb : Bytes zs := bytes_of_wf hwf
  have H1 := Lib.hid (fun W (hW : Below w.heap.size w W) => leaf_any A len c zs root page W _ (hz.below hW) hW.size hb (by omega))
  have H2 := Lib.hid (fun W (hW : Below w.heap.size w W) => eleaf_any A len c zs root page W _ (hz.below hW) hW.size hb (by omega) hr)
  have H3 := Lib.hid (fun W (hW : Below w.heap.size w W) => tget_any A len c zs root page W _ (hz.below hW) hW.size hb (by omega))
  have H4 := Lib.hid (fun W (hW : Below w.heap.size w W) => eget_any A len c zs root page W _ (hz.below hW) hW.size hb (by omega) hr)
  generalize leafE zs root page = E at *
  generalize leafV zs root page = V at *
  generalize getE zs root page = F at *
  generalize getK zs root page = K at *
  generalize getN zs root page = N at *
  clear hb hz hwf
  go_enter Try.func6, Try.ntmps6
  go_wp2_with fail
  refine (H1.out _ (Below.refl _ _)).mono ?_
  rintro e w1 ⟨rfl, hb1⟩
  go_wp2_with fail
  refine (H2.out _ hb1).mono ?_
  rintro e w2 ⟨rfl, hb2⟩
  have hbw2 := hb1.trans (hb2.mono hb1.size)
  go_wp2_with fail
  refine (H3.out _ hbw2).mono ?_
  rintro e w3 ⟨rfl, hb3⟩
  have hbw3 := hbw2.trans (hb3.mono hbw2.size)
  go_wp2_with fail
  have hbw4 : Below w.heap.size w (w3.alloc (.cells #[.int .i64 K, .int .i64 N] 36)) := hbw3.alloc hbw3.size _
  refine (H4.out _ hbw4).mono ?_
  rintro e w4 ⟨rfl, hb4⟩
  simp only [World.size_alloc] at hb4
  have hbw5 := hbw4.trans (hb4.mono (by have := hbw3.size; omega))
  have hz4 : w3.heap.size < w4.heap.size := by have := hb4.size; simp at this; omega
  have hc4 : ∀ o, w4.cell? ⟨w3.heap.size, o, none⟩ = (#[Value.int .i64 K, .int .i64 N] : Array Value)[o]? := fun o => by rw [hb4.cell (p := ⟨w3.heap.size, o, none⟩) (by simp)]; exact World.cell?_alloc_new _ _ _ _
  go_wp2
  all_goals go_ret
  all_goals exact ⟨rfl, hbw5.alloc hbw5.size _⟩
end Go.Proofs.Ytidfngplhjegpaa
