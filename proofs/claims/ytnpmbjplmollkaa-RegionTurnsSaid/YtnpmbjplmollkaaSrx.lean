/- slices.SortFunc at regions. -/
import Derived.Shelf.SlSortCmp.NoneTotal
import Derived.Test.YtnpmbjplmollkaaSrw
import Derived.Test.YtnpmbjplmollkaaSrt
import Derived.Test.YtnpmbjplmollkaaRgb
import Derived.Test.YtnpmbjplmollkaaJnl
namespace Go.Proofs.Ytnpmbjplmollkaa
open Go.Shelf Go.ChangeShapes Go.WideShapes Go.ChangeAt Go.RowKit Go.Joins Go.Sort
set_option linter.unusedVariables false
def RgB : Type := {x : Rgn // 0 ≤ x.f ∧ x.f ≤ 64}
instance : Inhabited RgB := ⟨⟨default, by decide, by decide⟩⟩
def valB (y : RgB) : Rgn := y.1
def encB (y : RgB) : List Value := fR y.1
def cfB (x y : RgB) : Int := x.1.f - y.1.f
theorem ltB (x y : RgB) : ltOf cfB x y = decide (x.1.f < y.1.f) := by
  unfold ltOf cfB; exact decide_eq_decide.2 (by omega)
theorem swoB : SWO (ltOf cfB) where
  irrefl x := by rw [ltB]; simp
  trans x y z h1 h2 := by rw [ltB] at *; simp at *; omega
  ntrans x y z h1 h2 := by rw [ltB] at *; simp at *; omega
theorem cmp_R (x y : Rgn) (hx : 0 ≤ x.f ∧ x.f ≤ 64) (hy : 0 ≤ y.f ∧ y.f ≤ 64) (W : World) : Calls Try.prog 49 #[.agg #[.int .i64 x.f, .int .i64 x.t, .int .i64 x.a.r, .int .i64 x.a.k, .bool x.a.g, .bool x.a.s], .agg #[.int .i64 y.f, .int .i64 y.t, .int .i64 y.a.r, .int .i64 y.a.k, .bool y.a.g, .bool y.a.s]] W fun e w' => e = .returned (.int .i64 (x.f - y.f)) ∧ ∃ q os', w' = grow (W.drewN q) os' := by
  obtain ⟨h1, h2⟩ := hx
  obtain ⟨h3, h4⟩ := hy
  go_enter Try.func49, Try.ntmps49
  go_wp2
  go_ret
  exact ⟨ret_i (by first | rfl | (unfold wrap64; omega)), 0, _, by rw [alloc_eq_grow, alloc_eq_grow, grow_grow]; rfl⟩
theorem cmpB (blk off size : Nat) (w : World) : CmpLays Try.prog 49 #[] encB 6 cfB blk off size w :=
  fun _ _ _ _ x y => cmp_R x.1 y.1 x.2 y.2 _
set_option maxHeartbeats 1000000 in
theorem sort_R (v : Value) (xs : List Rgn) (w : World) (base : Nat) (h : Os fR 6 26 w base v xs) (hx : ∀ x ∈ xs, 0 ≤ x.f ∧ x.f ≤ 64) (hn : xs.length ≤ 1000000) (hb : base ≤ w.heap.size) :
    Calls Try.prog 48 #[v, .func (.func 49) #[] #[]] w fun e w' => e = .returned (.tuple #[]) ∧ ∃ ys, ys.Perm xs ∧ SortedR ys ∧ Os fR 6 26 w' base v ys ∧ Go.RowKit.Below base w w' := by
  have hh := h
  obtain ⟨h1, ⟨rfl, h0⟩ | ⟨g, cap, cur, rfl, hg, hgh, _⟩⟩ := h
  · refine (AnyF.slices_SortFunc_none sortR none 0 _ w).mono ?_
    rintro e w' ⟨rfl, rfl⟩
    exact ⟨rfl, xs, List.Perm.refl _, by rw [List.eq_nil_of_length_eq_zero h0]; exact List.Pairwise.nil, hh, Go.RowKit.Below.refl _ _⟩
  · obtain ⟨d, hd⟩ : ∃ d : Array RgB, d.toList.map valB = xs := ⟨(xs.attachWith (fun x => 0 ≤ x.f ∧ x.f ≤ 64) hx).toArray, List.attachWith_map_subtype_val hx⟩
    have hds : d.size = xs.length := by rw [← hd]; simp
    have hH := os_holds (β := RgB) (enc := encB) fR_len (by decide) valB (fun _ => rfl) hh d hd
    have hc := AnyQ.slices_SortFunc (α := RgB) sortR 6 Try.isAgg26 Try.sizeOf26 encB (fun _ => rfl) (fun x => fR_one1 x.1) cfB swoB 49 #[] g 0 cap d w (enters_of Try.func49 (by kernel_rfl) rfl) (cmpB _ _ _ w) hH (blk_lt hgh) (by rw [hds]; omega)
    rw [hds] at hc
    refine Calls.mono hc ?_
    rintro e w' ⟨rfl, d', n, os, hp, hs, rfl⟩
    have hsz : d'.size = xs.length := by rw [← hds]; exact hp.1
    have hso := os_sorted (β := RgB) (enc := encB) fR_len (by decide) valB (fun _ => rfl) hh d' hsz n os
    refine ⟨rfl, d'.toList.map valB, ?_, ?_, hso.1, hso.2⟩
    · have := (perm_list (by rw [hds]; exact hp)).map valB
      rwa [hd] at this
    · have hs2 := sorted_list (d := d') (by rw [hsz]; exact hs)
      unfold SortedR
      rw [List.pairwise_map]
      refine hs2.imp fun {a b} h => ?_
      rw [ltB] at h
      simp at h; exact h
end Go.Proofs.Ytnpmbjplmollkaa
