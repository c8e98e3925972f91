/- The walks of the two laws on entries. -/
import Derived.Test.YtokpodmefnmmcaaEntryD
import Derived.Test.YtokpodmefnmmcaaOpen
namespace Go.Proofs.Ytokpodmefnmmcaa
open Go.RowKit

set_option maxHeartbeats 1000000 in
theorem entryTells_walk (k : Int) (_ : I64 k) (n : Int) (_ : I64 n) (v : Int) (_ : I64 v) (w : World) :
    Calls Try.prog 3 #[.agg #[.int .i64 k, .int .i64 n], .int .i64 v] w fun e w' => e = .returned (.bool true) ∧ Below w.heap.size w w' := by
  go_enter Try.func3, Try.ntmps3
  go_wp2_with (first
    | (go_at_call 15; refine (pack_any _ _ _).mono ?_; rintro e w' ⟨rfl, rfl⟩)
    | (go_at_call 16; refine (dpack_any _ _ _).mono ?_; rintro e w' ⟨rfl, rfl⟩)
    | (go_at_call 17; refine (unpack_any _ _).mono ?_; rintro e w1 ⟨rfl, hb1⟩; have hz1 : w.heap.size < w1.heap.size := (by have := hb1.size; simp at this; omega))
    | (go_at_call 18; refine (dunpack_any _ _).mono ?_; rintro e w2 ⟨rfl, hb2⟩; obtain ⟨hc2, hf2⟩ := bcell hb2; have hz2 : w1.heap.size < w2.heap.size := (by have := hb2.size; simp at this; omega)))
  go_ret
  exact ⟨rfl, (by repeat' first | exact Below.refl _ _ | refine Below.alloc ?_ ?_ _ | refine below_thru ?_ (by assumption) ?_ | omega | (simp; done) | (simp; omega))⟩

theorem packV_range (k n : Int) : 0 ≤ packV k n ∧ packV k n < 65536 := by
  by_cases h : packE k n = 0
  · obtain ⟨h1, h2, h3, h4, h5⟩ := packE_cases h
    have := packV_ok h
    omega
  · rw [packV_no h]; omega
theorem un_pack {k n : Int} (h : packE k n = 0) : unE (packV k n) = 0 ∧ unK (packV k n) = k ∧ unN (packV k n) = n := by
  obtain ⟨h1, h2, h3, h4, h5⟩ := packE_cases h
  have hv := packV_ok h
  have m1 : packV k n % 256 = k := by omega
  have m2 : packV k n / 256 = n := by omega
  have := un_ok (v := packV k n) (by rw [m1, m2]; exact h)
  rw [m1, m2] at this; exact this
theorem pack_un {v : Int} (h : unE v = 0) : packE (unK v) (unN v) = 0 ∧ packV (unK v) (unN v) = v := by
  by_cases hp : packE (v % 256) (v / 256) = 0
  · obtain ⟨e1, e2, e3⟩ := un_ok hp
    have := packV_ok hp
    rw [e2, e3]
    exact ⟨hp, by omega⟩
  · obtain ⟨e1, _, _⟩ := un_no hp
    omega
theorem un_zero {v : Int} (h : unE v ≠ 0) : unK v = 0 ∧ unN v = 0 := by
  by_cases hp : packE (v % 256) (v / 256) = 0
  · exact absurd (un_ok hp).1 h
  · exact (un_no hp).2

attribute [local go_sem] and255
set_option maxHeartbeats 1000000 in
theorem alive4_any (w : World) : Calls Try.prog 19 #[] w fun e w' => e = .returned (.bool true) ∧ Below w.heap.size w w' := by
  have b1 : bits BinOp.or IntKind.i64 1 0 = 1 := by decide +kernel
  have b2 : bits BinOp.or IntKind.i64 2 1280 = 1282 := by decide +kernel
  go_enter Try.func19, Try.ntmps19
  go_wp2
  go_ret
  exact ⟨rfl, by go_grown⟩

set_option maxHeartbeats 4000000 in
theorem entryBack_walk (k : Int) (_ : I64 k) (n : Int) (_ : I64 n) (v : Int) (_ : I64 v) (w : World) :
    Calls Try.prog 4 #[.agg #[.int .i64 k, .int .i64 n], .int .i64 v] w fun e w' => e = .returned (.bool true) ∧ Below w.heap.size w w' := by
  obtain ⟨r1, r2⟩ := packV_range k n
  have r2' : ¬ (65536 ≤ packV k n) := by omega
  by_cases hp : packE k n = 0
  · obtain ⟨u1, u2, u3⟩ := un_pack hp
    by_cases hv : unE v = 0
    · obtain ⟨p1, p2⟩ := pack_un hv
      go_enter Try.func4, Try.ntmps4
      go_wp2_with (first
        | (go_at_call 19; refine (alive4_any _).mono ?_; rintro e w0 ⟨rfl, hb0⟩; have hz0 : w.heap.size < w0.heap.size := (by have := hb0.size; simp at this; omega); have q0 := keepc (b := w.heap.size) (o := 0) hb0 (by simp [go_sem]; rfl) (by simp); have q1 := keepc (b := w.heap.size) (o := 1) hb0 (by simp [go_sem]; rfl) (by simp))
        | (go_at_call 15; refine (pack_any _ _ _).mono ?_; rintro e w' ⟨rfl, rfl⟩)
        | (go_at_call 17; refine (unpack_any _ _).mono ?_; rintro e w1 ⟨rfl, hb1⟩; have hz1 : w.heap.size < w1.heap.size := (by have := hb1.size; simp at this; omega); have q2 := keepc (b := w.heap.size) (o := 0) hb1 (by simp [go_sem, *]; rfl) (by simp; omega); have q3 := keepc (b := w.heap.size) (o := 1) hb1 (by simp [go_sem, *]; rfl) (by simp; omega)))
      go_ret
      exact ⟨rfl, (by repeat' first | exact Below.refl _ _ | refine Below.alloc ?_ ?_ _ | refine below_thru ?_ (by assumption) ?_ | omega | (simp; done) | (simp; omega))⟩
    · obtain ⟨z1, z2⟩ := un_zero hv
      have hv' : (unE v == 0) = false := by simp [hv]
      have hv2 : (unE v != 0) = true := by simp [hv]
      clear hv
      go_enter Try.func4, Try.ntmps4
      go_wp2_with (first
        | (go_at_call 19; refine (alive4_any _).mono ?_; rintro e w0 ⟨rfl, hb0⟩; have hz0 : w.heap.size < w0.heap.size := (by have := hb0.size; simp at this; omega); have q0 := keepc (b := w.heap.size) (o := 0) hb0 (by simp [go_sem]; rfl) (by simp); have q1 := keepc (b := w.heap.size) (o := 1) hb0 (by simp [go_sem]; rfl) (by simp))
        | (go_at_call 15; refine (pack_any _ _ _).mono ?_; rintro e w' ⟨rfl, rfl⟩)
        | (go_at_call 17; refine (unpack_any _ _).mono ?_; rintro e w1 ⟨rfl, hb1⟩; have hz1 : w.heap.size < w1.heap.size := (by have := hb1.size; simp at this; omega); have q2 := keepc (b := w.heap.size) (o := 0) hb1 (by simp [go_sem, *]; rfl) (by simp; omega); have q3 := keepc (b := w.heap.size) (o := 1) hb1 (by simp [go_sem, *]; rfl) (by simp; omega)))
      go_ret
      exact ⟨rfl, (by repeat' first | exact Below.refl _ _ | refine Below.alloc ?_ ?_ _ | refine below_thru ?_ (by assumption) ?_ | omega | (simp; done) | (simp; omega))⟩
  · have hp' : (packE k n == 0) = false := by simp [hp]
    clear hp
    by_cases hv : unE v = 0
    · obtain ⟨p1, p2⟩ := pack_un hv
      go_enter Try.func4, Try.ntmps4
      go_wp2_with (first
        | (go_at_call 19; refine (alive4_any _).mono ?_; rintro e w0 ⟨rfl, hb0⟩; have hz0 : w.heap.size < w0.heap.size := (by have := hb0.size; simp at this; omega); have q0 := keepc (b := w.heap.size) (o := 0) hb0 (by simp [go_sem]; rfl) (by simp); have q1 := keepc (b := w.heap.size) (o := 1) hb0 (by simp [go_sem]; rfl) (by simp))
        | (go_at_call 15; refine (pack_any _ _ _).mono ?_; rintro e w' ⟨rfl, rfl⟩)
        | (go_at_call 17; refine (unpack_any _ _).mono ?_; rintro e w1 ⟨rfl, hb1⟩; have hz1 : w.heap.size < w1.heap.size := (by have := hb1.size; simp at this; omega); have q2 := keepc (b := w.heap.size) (o := 0) hb1 (by simp [go_sem, *]; rfl) (by simp; omega); have q3 := keepc (b := w.heap.size) (o := 1) hb1 (by simp [go_sem, *]; rfl) (by simp; omega)))
      go_ret
      exact ⟨rfl, (by repeat' first | exact Below.refl _ _ | refine Below.alloc ?_ ?_ _ | refine below_thru ?_ (by assumption) ?_ | omega | (simp; done) | (simp; omega))⟩
    · obtain ⟨z1, z2⟩ := un_zero hv
      have hv' : (unE v == 0) = false := by simp [hv]
      have hv2 : (unE v != 0) = true := by simp [hv]
      clear hv
      go_enter Try.func4, Try.ntmps4
      go_wp2_with (first
        | (go_at_call 19; refine (alive4_any _).mono ?_; rintro e w0 ⟨rfl, hb0⟩; have hz0 : w.heap.size < w0.heap.size := (by have := hb0.size; simp at this; omega); have q0 := keepc (b := w.heap.size) (o := 0) hb0 (by simp [go_sem]; rfl) (by simp); have q1 := keepc (b := w.heap.size) (o := 1) hb0 (by simp [go_sem]; rfl) (by simp))
        | (go_at_call 15; refine (pack_any _ _ _).mono ?_; rintro e w' ⟨rfl, rfl⟩)
        | (go_at_call 17; refine (unpack_any _ _).mono ?_; rintro e w1 ⟨rfl, hb1⟩; have hz1 : w.heap.size < w1.heap.size := (by have := hb1.size; simp at this; omega); have q2 := keepc (b := w.heap.size) (o := 0) hb1 (by simp [go_sem, *]; rfl) (by simp; omega); have q3 := keepc (b := w.heap.size) (o := 1) hb1 (by simp [go_sem, *]; rfl) (by simp; omega)))
      go_ret
      exact ⟨rfl, (by repeat' first | exact Below.refl _ _ | refine Below.alloc ?_ ?_ _ | refine below_thru ?_ (by assumption) ?_ | omega | (simp; done) | (simp; omega))⟩
end Go.Proofs.Ytokpodmefnmmcaa
