/- alive5; TableBack: its walk. -/
import Derived.Test.YtidfngplhjegpaaTabB
import Derived.Test.YtidfngplhjegpaaRamN
namespace Go.Proofs.Ytidfngplhjegpaa
open Go.RowKit
set_option linter.unusedVariables false

theorem bytes_rep (k : Nat) : Bytes (List.replicate k 0) := fun i => by rw [getD_rep]; omega
theorem linkL_bytes {zs : List Int} (hb : Bytes zs) (root page leaf : Int) : Bytes (linkL zs root page leaf) := by
  unfold linkL
  split
  · unfold clrL
    split
    · exact zfill_bytes (putN_bytes hb _ _ _) _ _
    · exact putN_bytes hb _ _ _
  · intro i; simp
theorem tputL_bytes {zs : List Int} (hb : Bytes zs) (root page K N : Int) : Bytes (tputL zs root page K N) := by
  by_cases h : tputE zs root page K N = 0
  · rw [(tput_ok h).2.2.2.2.2]; exact putN_bytes hb _ _ _
  · unfold tputL; rw [if_neg h]; intro i; simp

theorem linkL_len (zs : List Int) (root page leaf : Int) : (linkL zs root page leaf).length ≤ zs.length := by
  unfold linkL
  split
  · unfold clrL
    split
    · rw [zfill_len, linkP_len]; exact Nat.le_refl _
    · rw [linkP_len]; exact Nat.le_refl _
  · exact Nat.zero_le _
set_option maxHeartbeats 4000000 in
theorem alive5_any (w : World) : Calls Try.prog 29 #[] w fun e w' => e = .returned (.bool true) ∧ Below w.heap.size w w' := by
  obtain ⟨a1, a2, a3, a4, a5, a6, a7, a8⟩ := alive5_facts
  have hZ := bytes_rep 4096
  have hLB := linkL_bytes hZ 2 13 3
  have hSB := tputL_bytes hLB 2 13 1 9
  have hLl : (linkL (List.replicate 4096 0) 2 13 3).length ≤ 4096 := Nat.le_trans (linkL_len _ _ _ _) (Nat.le_of_eq List.length_replicate)
  have hSl : (tputL (linkL (List.replicate 4096 0) 2 13 3) 2 13 1 9).length ≤ 4096 := by
    rw [(tput_ok a2).2.2.2.2.2, putN_len]; exact hLl
  have H1 := Lib.hid (fun W B hr hB => link_any (some ⟨w.heap.size + 1, 0, none⟩) 4096 4096 (List.replicate 4096 0) 2 13 3 W B hr hB hZ (by omega))
  rw [a1] at H1
  generalize linkL (List.replicate 4096 0) 2 13 3 = L at *
  have H2 := Lib.hid (fun W A n c hr hn => tPut_any A n c L 2 13 1 9 W W.heap.size hr (Nat.le_refl _) hLB hn)
  rw [a2] at H2
  generalize tputL L 2 13 1 9 = S at *
  have H3 := Lib.hid (fun W A n c hr hn => tget_any A n c S 2 13 W W.heap.size hr (Nat.le_refl _) hSB hn)
  rw [a3, a4, a5] at H3
  have H4 := Lib.hid (fun W A n c hr hn => tPut_any A n c L 2 40 1 9 W W.heap.size hr (Nat.le_refl _) hLB hn)
  rw [a6] at H4
  have H5 := Lib.hid (fun W A n c hr hn => leaf_any A n c S 2 8 W W.heap.size hr (Nat.le_refl _) hSB hn)
  rw [a7, a8] at H5
  have HLL := Lib.hid hLl
  have HSL := Lib.hid hSl
  clear a1 a2 a3 a4 a5 a6 a7 a8 hZ hLB hSB hLl hSl
  go_enter Try.func29, Try.ntmps29
  go_wp2_with fail
  refine (rnew_any _).mono ?_
  rintro e w1 ⟨rfl, rfl⟩
  go_wp2_with fail
  have hrow := (made_own 4096 (by omega) (w.alloc (.cells #[.int .i64 1, .int .i64 9] 36))).row
  simp only [World.size_alloc] at hrow
  refine (H1.out _ _ hrow (by simp)).mono ?_
  rintro e w1 ⟨A1, n1, c1, rfl, ho1, hb1⟩
  simp only [World.size_alloc] at hb1
  have hz1 : w.heap.size + 1 + 1 ≤ w1.heap.size := by have := hb1.size; simpa using this
  have hx1 : ∀ o, w1.cell? ⟨w.heap.size, o, none⟩ = (#[Value.int .i64 1, .int .i64 9] : Array Value)[o]? := fun o => by
    rw [hb1.cell (p := ⟨w.heap.size, o, none⟩) (by show w.heap.size < _; omega), World.cell?_alloc_lt _ _ _ (by simp)]
    exact World.cell?_alloc_new _ _ _ _
  have hw1 : Below w.heap.size w w1 := (((Below.refl _ _).alloc (Nat.le_refl _) _).alloc (by simp) _).trans (hb1.mono (by omega))
  have HO1 := Lib.hid ho1
  have hn1 : n1 ≤ 4096 := by rw [← ho1.1]; exact HLL.out
  clear ho1 hrow
  go_wp2_with fail
  refine (H2.out _ A1 n1 c1 HO1.out (by omega)).mono ?_
  rintro e w2 ⟨A2, n2, c2, rfl, ho2, hb2⟩
  have hz2 := hb2.size
  have hx2 : ∀ o, w2.cell? ⟨w.heap.size, o, none⟩ = (#[Value.int .i64 1, .int .i64 9] : Array Value)[o]? := fun o => (hb2.cell (p := ⟨w.heap.size, o, none⟩) (by show w.heap.size < _; omega)).trans (hx1 o)
  have hw2 := hw1.trans (hb2.mono hw1.size)
  have HO2 := Lib.hid ho2.row
  have hn2 : n2 ≤ 4096 := by rw [← ho2.1]; exact HSL.out
  clear ho2 hx1
  go_wp2_with fail
  refine (H3.out _ A2 n2 c2 HO2.out (by omega)).mono ?_
  rintro e w3 ⟨rfl, hb3⟩
  have hz3 := hb3.size
  have hx3 : ∀ o, w3.cell? ⟨w.heap.size, o, none⟩ = (#[Value.int .i64 1, .int .i64 9] : Array Value)[o]? := fun o => (hb3.cell (p := ⟨w.heap.size, o, none⟩) (by show w.heap.size < _; omega)).trans (hx2 o)
  have hw3 := hw2.trans (hb3.mono hw2.size)
  clear hx2
  have hx3b := hx3 
  have hlt3 : w.heap.size < w3.heap.size := by omega
  go_wp2_with fail
  refine (H4.out _ A1 n1 c1 ((HO1.out.any' hb2 (Nat.le_refl _)).any' hb3 (Nat.le_refl _) |>.any' ((Below.refl _ _).alloc (Nat.le_refl _) _) (Nat.le_refl _)) (by omega)).mono ?_
  rintro e w4 ⟨A4, n4, c4, rfl, ho4, hb4⟩
  obtain ⟨hc4, hn4, hz4⟩ := step1 hb4
  simp only [World.size_alloc] at hb4
  have hx4 : ∀ o, w4.cell? ⟨w.heap.size, o, none⟩ = (#[Value.int .i64 1, .int .i64 9] : Array Value)[o]? := fun o => (hc4 _ o hlt3).trans (hx3 o)
  have hw4 : Below w.heap.size w w4 := (hw3.alloc hw3.size _).trans (hb4.mono (by omega))
  have HO24 := Lib.hid (((HO2.out.any' hb3 (Nat.le_refl _)).any' ((Below.refl _ _).alloc (Nat.le_refl _) (.cells #[.int .i64 1, .int .i64 9] 36)) (Nat.le_refl _)).any' (by simpa using hb4) (Nat.le_refl _))
  clear ho4 hc4
  go_wp2_with fail
  refine (H5.out _ A2 n2 c2 HO24.out (by omega)).mono ?_
  rintro e w5 ⟨rfl, hb5⟩
  have hz5 := hb5.size
  have hx5 : ∀ o, w5.cell? ⟨w.heap.size, o, none⟩ = (#[Value.int .i64 1, .int .i64 9] : Array Value)[o]? := fun o => (hb5.cell (p := ⟨w.heap.size, o, none⟩) (by show w.heap.size < _; omega)).trans (hx4 o)
  have hy5 : ∀ o, w5.cell? ⟨w3.heap.size, o, none⟩ = (#[Value.int .i64 1, .int .i64 9] : Array Value)[o]? := fun o => (hb5.cell (p := ⟨w3.heap.size, o, none⟩) (by show w3.heap.size < _; omega)).trans (hn4 o)
  have hw5 := hw4.trans (hb5.mono hw4.size)
  clear hx3 hx3b hx4 hn4
  go_wp2
  all_goals go_ret
  all_goals exact ⟨rfl, hw5⟩
end Go.Proofs.Ytidfngplhjegpaa
