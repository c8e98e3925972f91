/- Guard; the closures of RegionTurns. -/
import Derived.Test.YtnpmbjplmollkaaHph
namespace Go.Proofs.Ytnpmbjplmollkaa
open Go.ChangeShapes Go.WideShapes Go.ChangeAt Go.RowKit Go.Joins
set_option linter.unusedVariables false
theorem guard1_fun (b1 b2 : Nat) (r k : Int) (w : World) (base : Nat) (hb1 : b1 < base) (hb2 : b2 < base) (hbs : base ≤ w.heap.size) (hc1 : w.cell? ⟨b1, 0, none⟩ = some (.int .i64 r)) (hc2 : w.cell? ⟨b2, 0, none⟩ = some (.int .i64 k)) : FunA 45 #[.pointer (some ⟨b1, 0, none⟩), .pointer (some ⟨b2, 0, none⟩)] (fun a => ⟨r, k, a.g, a.s⟩) base w := by
  intro W a hW
  have c1 : W.cell? ⟨b1, 0, none⟩ = some (.int .i64 r) := (hW.cell (p := ⟨b1, 0, none⟩) hb1).trans hc1
  have c2 : W.cell? ⟨b2, 0, none⟩ = some (.int .i64 k) := (hW.cell (p := ⟨b2, 0, none⟩) hb2).trans hc2
  have l1 : b1 < W.heap.size := Nat.lt_of_lt_of_le hb1 (Nat.le_trans hbs hW.size)
  have l2 : b2 < W.heap.size := Nat.lt_of_lt_of_le hb2 (Nat.le_trans hbs hW.size)
  clear hc1 hc2
  go_enter Try.func45, Try.ntmps45
  go_wp2
  go_region
  go_wp2
  try simp only [Exit.inBlock, Exit.then]
  refine bodyPost_ret (v := .agg #[.int .i64 r, .int .i64 k, .bool a.g, .bool a.s]) (by simp [results, Try.results45, go_sem]) rfl ⟨rfl, ?_⟩
  exact (((Below.refl _ _).alloc (Nat.le_refl _) _).alloc (by simp) _).drew
set_option maxHeartbeats 2000000 in
theorem Guard_any (A : Option Addr) (n c : Nat) (xs : List Rgn) (a b r k : Int) (w : World) (B : Nat) (hz : Rw fR 6 w B A n xs) (hB : B ≤ w.heap.size) (hbig : n ≤ 140737488355328) :
    Calls Try.prog 23 #[.slice A n c, .int .i64 a, .int .i64 b, .int .i64 r, .int .i64 k] w (TR (turnL xs a b fun a => ⟨r, k, a.g, a.s⟩) (turnE xs a b) w) := by
  have HW0 := Lib.hid (((Below.refl w.heap.size w).alloc (Nat.le_refl _) (.cells #[.int .i64 r] 3)).alloc (by simp) (.cells #[.int .i64 k] 3))
  have hf := guard1_fun w.heap.size (w.heap.size + 1) r k ((w.alloc (.cells #[.int .i64 r] 3)).alloc (.cells #[.int .i64 k] 3)) (w.heap.size + 2) (by omega) (by omega) (by simp) (by
      rw [((Below.refl (w.alloc (.cells #[.int .i64 r] 3)).heap.size (w.alloc (.cells #[.int .i64 r] 3))).alloc (Nat.le_refl _) (.cells #[.int .i64 k] 3)).cell (p := ⟨w.heap.size, 0, none⟩) (by simp)]
      rw [blk_cell (heap_alloc_last w _)]; rfl) (by
      have h := heap_alloc_last (w.alloc (.cells #[.int .i64 r] 3)) (.cells #[.int .i64 k] 3)
      rw [World.size_alloc] at h
      rw [blk_cell h]; rfl)
  have hcall := turn_any _ _ (enters_of Try.func45 (by kernel_rfl) rfl) _ A n c xs a b _ B _ (hz.below (HW0.out.mono hB)) (Nat.le_trans hB HW0.out.size) (by simp) hbig hf
  generalize turnL xs a b (fun a => ⟨r, k, a.g, a.s⟩) = tl at *
  generalize turnE xs a b = tE at *
  clear hz hf
  go_enter Try.func23, Try.ntmps23
  go_wp2_with (go_at_call 42; refine hcall.mono ?_; rintro e w1 ⟨v1, rfl, ho1, hb1⟩)
  go_ret2
  exact TR.on ⟨_, rfl, ho1, hb1⟩ HW0.out
/-- A function that writes through a pointer to a copy. -/
def FunW (g : Nat) (cb : Array Value) (f : Att → Att) (base : Nat) (w : World) : Prop :=
  ∀ (W0 : World) (a : Att), Below base w W0 → Calls Try.prog g (#[.pointer (some ⟨W0.heap.size, 0, none⟩)] ++ cb) (W0.alloc (.cells #[.int .i64 a.r, .int .i64 a.k, .bool a.g, .bool a.s] 24)) fun e w' => e = .returned (.tuple #[]) ∧ Below W0.heap.size W0 w' ∧ W0.heap.size < w'.heap.size ∧ ∀ (j : Nat) (u : Value), (fA (f a))[j]? = some u → w'.cell? ⟨W0.heap.size, j, none⟩ = some u
theorem turns2_fun (bx : Nat) (x : Att) (w : World) (base : Nat) (hb : bx < base) (hbs : base ≤ w.heap.size) (hc : ∀ (j : Nat) (u : Value), (fA x)[j]? = some u → w.cell? ⟨bx, j, none⟩ = some u) : FunW 20 #[.pointer (some ⟨bx, 0, none⟩)] (fun _ => x) base w := by
  intro W0 a hW
  have xc0 : W0.cell? ⟨bx, 0, none⟩ = some (.int .i64 x.r) := (hW.cell (p := ⟨bx, 0, none⟩) hb).trans (hc 0 _ rfl); have xc1 : W0.cell? ⟨bx, 1, none⟩ = some (.int .i64 x.k) := (hW.cell (p := ⟨bx, 1, none⟩) hb).trans (hc 1 _ rfl); have xc2 : W0.cell? ⟨bx, 2, none⟩ = some (.bool x.g) := (hW.cell (p := ⟨bx, 2, none⟩) hb).trans (hc 2 _ rfl); have xc3 : W0.cell? ⟨bx, 3, none⟩ = some (.bool x.s) := (hW.cell (p := ⟨bx, 3, none⟩) hb).trans (hc 3 _ rfl)
  have hbl : bx < W0.heap.size := Nat.lt_of_lt_of_le hb (Nat.le_trans hbs hW.size)
  have hne : ¬ bx = W0.heap.size := by omega
  clear hc
  go_enter Try.func20, Try.ntmps20
  go_wp2
  go_end0
  refine ⟨rfl, (((Below.refl _ _).alloc (Nat.le_refl _) _)), by simp, fun j u hj => ?_⟩
  have := alloc_cells (W := W0) (T := 24) j u hj
  rw [addr_add, Nat.zero_add] at this
  exact this
theorem turns3_fun (w : World) (base : Nat) : FunW 22 #[] (fun a => ⟨a.r, a.k, a.g, true⟩) base w := by
  intro W0 a hW

  go_enter Try.func22, Try.ntmps22
  go_wp2
  go_end0
  refine ⟨rfl, (((Below.refl _ _).alloc (Nat.le_refl _) _)), by simp, fun j u hj => ?_⟩
  have := alloc_cells (W := W0) (T := 24) j u hj
  rw [addr_add, Nat.zero_add] at this
  exact this
theorem turns4_fun (bx : Nat) (x : Att) (w : World) (base : Nat) (hb : bx < base) (hbs : base ≤ w.heap.size) (hc : ∀ (j : Nat) (u : Value), (fA x)[j]? = some u → w.cell? ⟨bx, j, none⟩ = some u) : FunW 24 #[.pointer (some ⟨bx, 0, none⟩)] (fun a => ⟨x.r, x.k, a.g, a.s⟩) base w := by
  intro W0 a hW
  have xc0 : W0.cell? ⟨bx, 0, none⟩ = some (.int .i64 x.r) := (hW.cell (p := ⟨bx, 0, none⟩) hb).trans (hc 0 _ rfl); have xc1 : W0.cell? ⟨bx, 1, none⟩ = some (.int .i64 x.k) := (hW.cell (p := ⟨bx, 1, none⟩) hb).trans (hc 1 _ rfl); have xc2 : W0.cell? ⟨bx, 2, none⟩ = some (.bool x.g) := (hW.cell (p := ⟨bx, 2, none⟩) hb).trans (hc 2 _ rfl); have xc3 : W0.cell? ⟨bx, 3, none⟩ = some (.bool x.s) := (hW.cell (p := ⟨bx, 3, none⟩) hb).trans (hc 3 _ rfl)
  have hbl : bx < W0.heap.size := Nat.lt_of_lt_of_le hb (Nat.le_trans hbs hW.size)
  have hne : ¬ bx = W0.heap.size := by omega
  clear hc
  go_enter Try.func24, Try.ntmps24
  go_wp2
  go_region
  go_end0
  refine ⟨rfl, (((Below.refl _ _).alloc (Nat.le_refl _) _).drew), by simp, fun j u hj => ?_⟩
  have := alloc_cells (W := W0) (T := 24) j u hj
  rw [addr_add, Nat.zero_add] at this
  exact this
end Go.Proofs.Ytnpmbjplmollkaa
