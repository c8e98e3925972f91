/- Guard; the closures of RegionTurns. -/
import Derived.Test.YtglnnplijienbaaM28
import Derived.Deep.WholeRow
namespace Go.Proofs.Ytglnnplijienbaa
open Go.ChangeShapes Go.WideShapes Go.ChangeAt Go.RowKit Go.Joins
set_option linter.unusedVariables false
theorem guard1_fun (b1 b2 : Nat) (r k : Int) (w : World) (base : Nat) (hb1 : b1 < base) (hb2 : b2 < base) (hbs : base ≤ w.heap.size) (hc1 : w.cell? ⟨b1, 0, none⟩ = some (.int .i64 r)) (hc2 : w.cell? ⟨b2, 0, none⟩ = some (.int .i64 k)) : FunA 65 #[.pointer (some ⟨b1, 0, none⟩), .pointer (some ⟨b2, 0, none⟩)] (fun a => ⟨r, k, a.g, a.s⟩) base w := by
  intro W a hW
  have c1 : W.cell? ⟨b1, 0, none⟩ = some (.int .i64 r) := (hW.cell (p := ⟨b1, 0, none⟩) hb1).trans hc1
  have c2 : W.cell? ⟨b2, 0, none⟩ = some (.int .i64 k) := (hW.cell (p := ⟨b2, 0, none⟩) hb2).trans hc2
  have l1 : b1 < W.heap.size := Nat.lt_of_lt_of_le hb1 (Nat.le_trans hbs hW.size)
  have l2 : b2 < W.heap.size := Nat.lt_of_lt_of_le hb2 (Nat.le_trans hbs hW.size)
  clear hc1 hc2
  go_enter Try.func65, Try.ntmps65
  go_wp2
  go_region
  go_wp2
  try simp only [Exit.inBlock, Exit.then]
  refine bodyPost_ret (v := .agg #[.int .i64 r, .int .i64 k, .bool a.g, .bool a.s]) (by simp [results, Try.results65, go_sem]) rfl ⟨rfl, ?_⟩
  exact (((Below.refl _ _).alloc (Nat.le_refl _) _).alloc (by simp) _).drew
set_option maxHeartbeats 2000000 in
theorem Guard_any (A : Option Addr) (n c : Nat) (xs : List Rgn) (a b r k : Int) (w : World) (B : Nat) (hz : Rw fR 6 w B A n xs) (hB : B ≤ w.heap.size) (hbig : n ≤ 140737488355328) :
    Calls Try.prog 47 #[.slice A n c, .int .i64 a, .int .i64 b, .int .i64 r, .int .i64 k] w (TR (turnL xs a b fun a => ⟨r, k, a.g, a.s⟩) (turnE xs a b) w) := by
  have HW0 := Lib.hid (((Below.refl w.heap.size w).alloc (Nat.le_refl _) (.cells #[.int .i64 r] 3)).alloc (by simp) (.cells #[.int .i64 k] 3))
  have hf := guard1_fun w.heap.size (w.heap.size + 1) r k ((w.alloc (.cells #[.int .i64 r] 3)).alloc (.cells #[.int .i64 k] 3)) (w.heap.size + 2) (by omega) (by omega) (by simp) (by
      rw [((Below.refl (w.alloc (.cells #[.int .i64 r] 3)).heap.size (w.alloc (.cells #[.int .i64 r] 3))).alloc (Nat.le_refl _) (.cells #[.int .i64 k] 3)).cell (p := ⟨w.heap.size, 0, none⟩) (by simp)]
      rw [blk_cell (heap_alloc_last w _)]; rfl) (by
      have h := heap_alloc_last (w.alloc (.cells #[.int .i64 r] 3)) (.cells #[.int .i64 k] 3)
      rw [World.size_alloc] at h
      rw [blk_cell h]; rfl)
  have hcall := turn_any _ _ (enters_of Try.func65 (by kernel_rfl) rfl) _ A n c xs a b _ B _ (hz.below (HW0.out.mono hB)) (Nat.le_trans hB HW0.out.size) (by simp) hbig hf
  generalize turnL xs a b (fun a => ⟨r, k, a.g, a.s⟩) = tl at *
  generalize turnE xs a b = tE at *
  clear hz hf
  go_enter Try.func47, Try.ntmps47
  go_wp2_with (go_at_call 61; refine hcall.mono ?_; rintro e w1 ⟨v1, rfl, ho1, hb1⟩)
  go_ret2
  exact TR.on ⟨_, rfl, ho1, hb1⟩ HW0.out
end Go.Proofs.Ytglnnplijienbaa
