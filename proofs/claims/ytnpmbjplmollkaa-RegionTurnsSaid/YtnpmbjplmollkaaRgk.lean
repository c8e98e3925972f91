/- region.Turn, Seal. -/
import Derived.Test.YtnpmbjplmollkaaRgh
namespace Go.Proofs.Ytnpmbjplmollkaa
open Go.ChangeShapes Go.WideShapes Go.ChangeAt Go.RowKit Go.Joins
set_option linter.unusedVariables false
theorem turn1_fun (b : Nat) (at_ : Att) (w : World) (base : Nat) (hb : b < base) (hbs : base ≤ w.heap.size) (hc : ∀ (j : Nat) (u : Value), [Value.int .i64 at_.r, .int .i64 at_.k, .bool at_.g, .bool at_.s][j]? = some u → w.cell? ⟨b, j, none⟩ = some u) : FunA 43 #[.pointer (some ⟨b, 0, none⟩)] (fun _ => at_) base w := by
  intro W a hW
  have bc0 : W.cell? ⟨b, 0, none⟩ = some (.int .i64 at_.r) := (hW.cell (p := ⟨b, 0, none⟩) hb).trans (hc 0 _ rfl)
  have bc1 : W.cell? ⟨b, 1, none⟩ = some (.int .i64 at_.k) := (hW.cell (p := ⟨b, 1, none⟩) hb).trans (hc 1 _ rfl)
  have bc2 : W.cell? ⟨b, 2, none⟩ = some (.bool at_.g) := (hW.cell (p := ⟨b, 2, none⟩) hb).trans (hc 2 _ rfl)
  have bc3 : W.cell? ⟨b, 3, none⟩ = some (.bool at_.s) := (hW.cell (p := ⟨b, 3, none⟩) hb).trans (hc 3 _ rfl)
  have hbl : b < W.heap.size := Nat.lt_of_lt_of_le hb (Nat.le_trans hbs hW.size)
  clear hc
  go_enter Try.func43, Try.ntmps43
  go_wp2
  try simp only [Exit.inBlock, Exit.then]
  refine bodyPost_ret (v := .agg #[.int .i64 at_.r, .int .i64 at_.k, .bool at_.g, .bool at_.s]) (by simp [results, Try.results43, go_sem]) rfl ⟨rfl, ?_⟩
  exact ((Below.refl _ _).alloc (Nat.le_refl _) _).alloc (by simp) _
theorem seal1_fun (w : World) (base : Nat) : FunA 44 #[] (fun a => ⟨a.r, a.k, a.g, true⟩) base w := by
  intro W a hW
  go_enter Try.func44, Try.ntmps44
  go_wp2
  try simp only [Exit.inBlock, Exit.then]
  refine bodyPost_ret (v := .agg #[.int .i64 a.r, .int .i64 a.k, .bool a.g, .bool true]) (by simp [results, Try.results44, go_sem]) rfl ⟨rfl, ?_⟩
  exact ((Below.refl _ _).alloc (Nat.le_refl _) _).alloc (by simp) _
theorem TR.on {l : List Rgn} {E : Int} {w w1 : World} {e : Ending} {w' : World} (h : TR l E w1 e w') (hb : Below w.heap.size w w1) : TR l E w e w' := by
  obtain ⟨v, he, ho, hb2⟩ := h
  exact ⟨v, he, ho.rebase hb.size, hb.trans (hb2.mono hb.size)⟩
set_option maxHeartbeats 2000000 in
theorem Turn_any (A : Option Addr) (n c : Nat) (xs : List Rgn) (a b : Int) (at_ : Att) (w : World) (B : Nat) (hz : Rw fR 6 w B A n xs) (hB : B ≤ w.heap.size) (hbig : n ≤ 140737488355328) :
    Calls Try.prog 19 #[.slice A n c, .int .i64 a, .int .i64 b, .agg #[.int .i64 at_.r, .int .i64 at_.k, .bool at_.g, .bool at_.s]] w (TR (turnL xs a b fun _ => at_) (turnE xs a b) w) := by
  have HW0 := Lib.hid ((Below.refl w.heap.size w).alloc (Nat.le_refl _) (.cells #[.int .i64 at_.r, .int .i64 at_.k, .bool at_.g, .bool at_.s] 24))
  have hf := turn1_fun w.heap.size at_ (w.alloc (.cells #[.int .i64 at_.r, .int .i64 at_.k, .bool at_.g, .bool at_.s] 24)) (w.heap.size + 1) (Nat.lt_succ_self _) (by simp) (fun j u hj => by
    have := alloc_cells (W := w) (T := 24) j u hj
    rw [addr_add, Nat.zero_add] at this; exact this)
  have hcall := turn_any _ _ (enters_of Try.func43 (by kernel_rfl) rfl) _ A n c xs a b _ B _ (hz.below (HW0.out.mono hB)) (by simp; omega) (by simp) hbig hf
  generalize turnL xs a b (fun _ => at_) = tl at *
  generalize turnE xs a b = tE at *
  clear hz hf
  go_enter Try.func19, Try.ntmps19
  go_wp2_with (go_at_call 42; refine hcall.mono ?_; rintro e w1 ⟨v1, rfl, ho1, hb1⟩)
  go_ret2
  exact TR.on ⟨_, rfl, ho1, hb1⟩ HW0.out
set_option maxHeartbeats 2000000 in
theorem Seal_any (A : Option Addr) (n c : Nat) (xs : List Rgn) (a b : Int) (w : World) (B : Nat) (hz : Rw fR 6 w B A n xs) (hB : B ≤ w.heap.size) (hbig : n ≤ 140737488355328) :
    Calls Try.prog 21 #[.slice A n c, .int .i64 a, .int .i64 b] w (TR (turnL xs a b fun a => ⟨a.r, a.k, a.g, true⟩) (turnE xs a b) w) := by
  have hcall := turn_any _ _ (enters_of Try.func44 (by kernel_rfl) rfl) _ A n c xs a b w B w.heap.size hz hB (Nat.le_refl _) hbig (seal1_fun w w.heap.size)
  generalize turnL xs a b (fun a => ⟨a.r, a.k, a.g, true⟩) = tl at *
  generalize turnE xs a b = tE at *
  clear hz
  go_enter Try.func21, Try.ntmps21
  go_wp2_with (go_at_call 42; refine hcall.mono ?_; rintro e w1 ⟨v1, rfl, ho1, hb1⟩)
  go_ret2
  exact ⟨_, rfl, ho1, hb1⟩
end Go.Proofs.Ytnpmbjplmollkaa
