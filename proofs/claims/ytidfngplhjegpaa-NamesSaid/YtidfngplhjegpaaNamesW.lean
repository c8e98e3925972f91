/- The walk of Names: each constant has its value. -/
import Derived.Test.YtidfngplhjegpaaBase
import Derived.RegionTactic
import Derived.ChangeAlike
namespace Go.Proofs.Ytidfngplhjegpaa
open Go.RowKit
def vals : List Int := [64, 16, 4, 64, 64, 64, 4, 4, 64, 8, 8, 6, 1, 2, 4, 1, 2, 3, 4, 0, 1, 2, 1, 2, 3, 4, 5, 6, 7, 8, 9, 10, 11, 12, 13, 14]
theorem vals_at (j : Nat) (hj : j < 36) : ((vals.map (Value.int .i64)).toArray)[j]? = some (.int .i64 (vals.getD j 0)) := by
  have hl : j < vals.length := hj
  simp [List.getD, List.getElem?_eq_getElem hl]
/-- Both lists stand there. -/
def Held2 (b : Nat) (w : World) : Prop := ∀ j, j < 36 → w.cell? ⟨b, j, none⟩ = some (.int .i64 (vals.getD j 0)) ∧ w.cell? ⟨b + 1, j, none⟩ = some (.int .i64 (vals.getD j 0))
set_option maxRecDepth 100000 in
set_option maxHeartbeats 20000000 in
theorem names_walk (w : World) : Calls Try.prog 10 #[] w fun e w' => e = .returned (.bool true) ∧ Below w.heap.size w w' := by
  go_enter Try.func10, Try.ntmps10
  go_wp2
  refine wp_loop_rounds 10 ?_
  repeat any_goals (rw [rounds_succ]; go_wp2)
  go_loopw [23] (fun i wr => ∃ k : Nat, k ≤ 36 ∧ i = .int .i64 k ∧ Held2 (w.heap.size + 1) wr ∧ Below w.heap.size w wr) (fun i _ => (36 - intOf i).toNat)
  case atStart => exact ⟨0, by omega, rfl, fun j hj => ⟨(by rw [World.cell?_alloc_past _ _ _ (by simp), World.cell?_alloc_at _ _ _ _ (by simp)]; exact vals_at j hj), (by rw [World.cell?_alloc_at _ _ _ _ (by simp)]; exact vals_at j hj)⟩, by go_grown⟩
  case round =>
    obtain ⟨k, hk, rfl, hh, hb⟩ := hrel
    by_cases hlt : k < 36
    · obtain ⟨c1, c2⟩ := hh k hlt
      have H := Lib.hid hh
      have hk1 : (k : Int) < 36 := by omega
      have hd : decide ((k : Int) < 36) = true := by simp; omega
      clear hh
      go_wp2
      go_region
      go_wp2
      go_roundw
      case rel => exact ⟨k + 1, by omega, by go_num, H.out, by go_grown⟩
      case measure => simp [intOf]; omega
    · have H := Lib.hid hh
      clear hh
      go_wp2
      go_ret
      exact ⟨rfl, by go_grown⟩
end Go.Proofs.Ytidfngplhjegpaa
