/- slices.SortFunc at blocks. -/
import Derived.Shelf.SlSortCmp.NoneTotal
import Derived.Test.YtnbhchfpfbbngaaSrw
import Derived.Test.YtnbhchfpfbbngaaSrt
import Derived.Test.YtnbhchfpfbbngaaSlB
import Derived.Test.YtnbhchfpfbbngaaBdr
namespace Go.Proofs.Ytnbhchfpfbbngaa
open Go.Shelf Go.ChangeShapes Go.WideShapes Go.ChangeAt Go.RowKit Go.Joins Go.Sort
set_option linter.unusedVariables false
def BkB : Type := {x : Blk // 0 ≤ x.a ∧ x.a ≤ 64}
instance : Inhabited BkB := ⟨⟨default, by decide, by decide⟩⟩
def valB (y : BkB) : Blk := y.1
def encB (y : BkB) : List Value := fB y.1
def cfB (x y : BkB) : Int := x.1.a - y.1.a
theorem ltK (x y : BkB) : ltOf cfB x y = decide (x.1.a < y.1.a) := by
  unfold ltOf cfB; exact decide_eq_decide.2 (by omega)
theorem swoB : SWO (ltOf cfB) where
  irrefl x := by rw [ltK]; simp
  trans x y z h1 h2 := by rw [ltK] at *; simp at *; omega
  ntrans x y z h1 h2 := by rw [ltK] at *; simp at *; omega
theorem cmp_Bk (x y : Blk) (hx : 0 ≤ x.a ∧ x.a ≤ 64) (hy : 0 ≤ y.a ∧ y.a ≤ 64) (W : World) : Calls Try.prog 35 #[.agg #[.int .i64 x.a, .int .i64 x.o], .agg #[.int .i64 y.a, .int .i64 y.o]] W fun e w' => e = .returned (.int .i64 (x.a - y.a)) ∧ ∃ q os', w' = grow (W.drewN q) os' := by
  obtain ⟨h1, h2⟩ := hx
  obtain ⟨h3, h4⟩ := hy
  go_enter Try.func35, Try.ntmps35
  go_wp2
  go_ret
  exact ⟨ret_i (by first | rfl | (unfold wrap64; omega)), 0, _, by rw [alloc_eq_grow, alloc_eq_grow, grow_grow]; rfl⟩
theorem cmpB (blk off size : Nat) (w : World) : CmpLays Try.prog 35 #[] encB 2 cfB blk off size w :=
  fun _ _ _ _ x y => cmp_Bk x.1 y.1 x.2 y.2 _
set_option maxHeartbeats 1000000 in
theorem sort_Bk (v : Value) (xs : List Blk) (w : World) (base : Nat) (h : Os fB 2 30 w base v xs) (hx : ∀ x ∈ xs, 0 ≤ x.a ∧ x.a ≤ 64) (hn : xs.length ≤ 1000000) (hb : base ≤ w.heap.size) :
    Calls Try.prog 34 #[v, .func (.func 35) #[] #[]] w fun e w' => e = .returned (.tuple #[]) ∧ ∃ ys, ys.Perm xs ∧ (ys.Pairwise fun x y => x.a ≤ y.a) ∧ Os fB 2 30 w' base v ys ∧ Go.RowKit.Below base w w' := by
  have hh := h
  obtain ⟨h1, ⟨rfl, h0⟩ | ⟨g, cap, cur, rfl, hg, hgh, _⟩⟩ := h
  · refine (AnyF.slices_SortFunc_none sortB none 0 _ w).mono ?_
    rintro e w' ⟨rfl, rfl⟩
    exact ⟨rfl, xs, List.Perm.refl _, by rw [List.eq_nil_of_length_eq_zero h0]; exact List.Pairwise.nil, hh, Go.RowKit.Below.refl _ _⟩
  · obtain ⟨d, hd⟩ : ∃ d : Array BkB, d.toList.map valB = xs := ⟨(xs.attachWith (fun x => 0 ≤ x.a ∧ x.a ≤ 64) hx).toArray, List.attachWith_map_subtype_val hx⟩
    have hds : d.size = xs.length := by rw [← hd]; simp
    have hH := os_holds (β := BkB) (enc := encB) fB_len (by decide) valB (fun _ => rfl) hh d hd
    have hc := AnyQ.slices_SortFunc (α := BkB) sortB 2 Try.isAgg30 Try.sizeOf30 encB (fun _ => rfl) (fun x => fB_one1 x.1) cfB swoB 35 #[] g 0 cap d w (enters_of Try.func35 (by kernel_rfl) rfl) (cmpB _ _ _ w) hH (blk_lt hgh) (by rw [hds]; omega)
    rw [hds] at hc
    refine Calls.mono hc ?_
    rintro e w' ⟨rfl, d', n, os, hp, hs, rfl⟩
    have hsz : d'.size = xs.length := by rw [← hds]; exact hp.1
    have hso := os_sorted (β := BkB) (enc := encB) fB_len (by decide) valB (fun _ => rfl) hh d' hsz n os
    refine ⟨rfl, d'.toList.map valB, ?_, ?_, hso.1, hso.2⟩
    · have := (perm_list (by rw [hds]; exact hp)).map valB
      rwa [hd] at this
    · have hs2 := sorted_list (d := d') (by rw [hsz]; exact hs)
      rw [List.pairwise_map]
      refine hs2.imp fun {a b} h => ?_
      rw [ltK] at h
      simp at h; exact h
end Go.Proofs.Ytnbhchfpfbbngaa
