/- table.at, Leaf, Get; the document's ENumber, ELeaf, EGet: what they answer. -/
import Derived.Test.YtidfngplhjegpaaRamB
import Derived.Test.YtidfngplhjegpaaRamF
import Derived.Test.YtidfngplhjegpaaEntryD
namespace Go.Proofs.Ytidfngplhjegpaa
open Go.RowKit
set_option linter.unusedVariables false

/-- Where a table's number lies; -1: it is not there. -/
def plc (len : Nat) (f k : Int) : Int := if 0 ≤ f ∧ f < 64 ∧ 0 ≤ k ∧ k < 8 ∧ 64 * f + 4 * k + 4 ≤ len then 64 * f + 4 * k else -1
def plcOk (len : Nat) (f k : Int) : Prop := 0 ≤ f ∧ f < 64 ∧ 0 ≤ k ∧ k < 8 ∧ 64 * f + 4 * k + 4 ≤ len
theorem plc_yes {len : Nat} {f k : Int} (h : plcOk len f k) : plc len f k = 64 * f + 4 * k := by unfold plc; exact if_pos h
theorem plc_no {len : Nat} {f k : Int} (h : ¬ plcOk len f k) : plc len f k = -1 := by unfold plc; exact if_neg h
theorem plc_neg {len : Nat} {f k : Int} : plc len f k < 0 ↔ ¬ plcOk len f k := by
  by_cases h : plcOk len f k
  · rw [plc_yes h]; unfold plcOk at *; omega
  · rw [plc_no h]; simp [h]
def atNum (zs : List Int) (f k : Int) : Int := rgetV zs (plc zs.length f k) 4
def atE (zs : List Int) (f k : Int) : Int := if plc zs.length f k < 0 then 2 else unE (atNum zs f k)
def atK (zs : List Int) (f k : Int) : Int := if plc zs.length f k < 0 then 0 else unK (atNum zs f k)
def atN (zs : List Int) (f k : Int) : Int := if plc zs.length f k < 0 then 0 else unN (atNum zs f k)
theorem at_no {zs : List Int} {f k : Int} (h : ¬ plcOk zs.length f k) : atE zs f k = 2 ∧ atK zs f k = 0 ∧ atN zs f k = 0 := by
  have := plc_neg.2 h
  unfold atE atK atN; rw [if_pos this, if_pos this, if_pos this]; exact ⟨rfl, rfl, rfl⟩
theorem at_yes {zs : List Int} {f k : Int} (h : plcOk zs.length f k) : rgetE zs (64 * f + 4 * k) 4 = 0 ∧ atE zs f k = unE (rgetV zs (64 * f + 4 * k) 4) ∧ atK zs f k = unK (rgetV zs (64 * f + 4 * k) 4) ∧ atN zs f k = unN (rgetV zs (64 * f + 4 * k) 4) := by
  have h1 := plc_yes h
  have h2 : ¬ plc zs.length f k < 0 := by rw [h1]; unfold plcOk at h; omega
  refine ⟨by unfold rgetE; unfold plcOk at h; rw [if_neg (by omega)], ?_, ?_, ?_⟩
  · unfold atE atNum; rw [if_neg h2, h1]
  · unfold atK atNum; rw [if_neg h2, h1]
  · unfold atN atNum; rw [if_neg h2, h1]

set_option maxHeartbeats 4000000 in
theorem tat_no (A : Option Addr) (len c : Nat) (zs : List Int) (f k : Int) (w : World) (B : Nat) (hz : Row .u8 w B A len zs) (hB : B ≤ w.heap.size) (hb : Bytes zs) (hn : len ≤ 140737488355328) (h : f < 0 ∨ 64 ≤ f ∨ (0 ≤ f ∧ f < 64 ∧ k < 0) ∨ (0 ≤ f ∧ f < 64 ∧ 8 ≤ k) ∨ (0 ≤ f ∧ f < 64 ∧ 0 ≤ k ∧ k < 8 ∧ (len : Int) < 64 * f + 4 * k + 4)) :
    Calls Try.prog 37 #[.slice A len c, .int .i64 f, .int .i64 k] w fun e w' => e = .returned (.tuple #[.agg #[.int .i64 0, .int .i64 0], .int .i64 2]) ∧ Below w.heap.size w w' := by
  have HL := Lib.hid hz.1
  have HZ := Lib.hid hz
  have HB := Lib.hid hb
  clear hz hb
  rcases h with h | h | ⟨h0, h1, h⟩ | ⟨h0, h1, h⟩ | ⟨h0, h1, h2, h3, h⟩
  · have e : Hid (frameF f = -1) := Lib.hid (by unfold frameF; rw [if_pos (by omega)])
    go_enter Try.func37, Try.ntmps37
    go_wp2_with (go_at_call 19; refine (frame_any f _).mono ?_; rintro e' w' ⟨rfl, hw⟩; rw [hw, e.out]; clear hw)
    refine bodyPost_ret (v := .tuple #[.agg #[.int .i64 0, .int .i64 0], .int .i64 2]) (by simp [results, Try.results37, go_sem]) rfl ⟨rfl, by go_grown⟩
  · have e : Hid (frameF f = -1) := Lib.hid (by unfold frameF; rw [if_pos (by omega)])
    go_enter Try.func37, Try.ntmps37
    go_wp2_with (go_at_call 19; refine (frame_any f _).mono ?_; rintro e' w' ⟨rfl, hw⟩; rw [hw, e.out]; clear hw)
    refine bodyPost_ret (v := .tuple #[.agg #[.int .i64 0, .int .i64 0], .int .i64 2]) (by simp [results, Try.results37, go_sem]) rfl ⟨rfl, by go_grown⟩
  · have e : Hid (frameF f = f * 64) := Lib.hid (by unfold frameF; rw [if_neg (by omega)])
    go_enter Try.func37, Try.ntmps37
    go_wp2_with (go_at_call 19; refine (frame_any f _).mono ?_; rintro e' w' ⟨rfl, hw⟩; rw [hw, e.out]; clear hw)
    all_goals refine bodyPost_ret (v := .tuple #[.agg #[.int .i64 0, .int .i64 0], .int .i64 2]) (by simp [results, Try.results37, go_sem]) rfl ⟨rfl, by go_grown⟩
  · have e : Hid (frameF f = f * 64) := Lib.hid (by unfold frameF; rw [if_neg (by omega)])
    go_enter Try.func37, Try.ntmps37
    go_wp2_with (go_at_call 19; refine (frame_any f _).mono ?_; rintro e' w' ⟨rfl, hw⟩; rw [hw, e.out]; clear hw)
    all_goals refine bodyPost_ret (v := .tuple #[.agg #[.int .i64 0, .int .i64 0], .int .i64 2]) (by simp [results, Try.results37, go_sem]) rfl ⟨rfl, by go_grown⟩
  · have e : Hid (frameF f = f * 64) := Lib.hid (by unfold frameF; rw [if_neg (by omega)])
    have hE : Hid (rgetE zs (f * 64 + 4 * k) 4 = 2) := Lib.hid (by unfold rgetE; rw [HL.out, if_pos (by omega)])
    go_enter Try.func37, Try.ntmps37
    go_wp2_with (first
      | (go_at_call 19; refine (frame_any f _).mono ?_; rintro e' w' ⟨rfl, hw⟩; rw [hw, e.out]; clear hw)
      | (go_at_call 16; refine (rget_any A len c zs (f * 64 + 4 * k) 4 _ B (HZ.out.below ((Below.refl _ _).alloc hB _)) HB.out hn).mono ?_; rintro e' w' ⟨rfl, hw⟩; rw [hw, hE.out]; clear hw))
    all_goals refine bodyPost_ret (v := .tuple #[.agg #[.int .i64 0, .int .i64 0], .int .i64 2]) (by simp [results, Try.results37, go_sem]) rfl ⟨rfl, by go_grown⟩

set_option maxHeartbeats 4000000 in
theorem tat_yes (A : Option Addr) (len c : Nat) (zs : List Int) (f k : Int) (w : World) (B : Nat) (hz : Row .u8 w B A len zs) (hB : B ≤ w.heap.size) (hb : Bytes zs) (hn : len ≤ 140737488355328) (h0 : 0 ≤ f) (h1 : f < 64) (h2 : 0 ≤ k) (h3 : k < 8) (hE : Hid (rgetE zs (f * 64 + 4 * k) 4 = 0)) (v : Int) (hV : Hid (rgetV zs (f * 64 + 4 * k) 4 = v)) :
    Calls Try.prog 37 #[.slice A len c, .int .i64 f, .int .i64 k] w fun e w' => e = .returned (.tuple #[.agg #[.int .i64 (unK v), .int .i64 (unN v)], .int .i64 (unE v)]) ∧ Below w.heap.size w w' := by
  have HZ := Lib.hid hz
  have HB := Lib.hid hb
  have e : Hid (frameF f = f * 64) := Lib.hid (by unfold frameF; rw [if_neg (by omega)])
  clear hz hb
  go_enter Try.func37, Try.ntmps37
  go_wp2_with (first
    | (go_at_call 19; refine (frame_any f _).mono ?_; rintro e' w' ⟨rfl, hw⟩; rw [hw, e.out]; clear hw)
    | (go_at_call 16; refine (rget_any A len c zs (f * 64 + 4 * k) 4 _ B (HZ.out.below ((Below.refl _ _).alloc hB _)) HB.out hn).mono ?_; rintro e' w' ⟨rfl, hw⟩; rw [hw, hE.out, hV.out]; clear hw)
    | (go_at_call 47; refine (unpack_any v _).mono ?_; rintro e' w1 ⟨rfl, hb1⟩; obtain ⟨hc1, hf1⟩ := bcell hb1; have hz1 : w.heap.size < w1.heap.size := (by have := hb1.size; simp at this; omega)))
  refine bodyPost_ret (v := .tuple #[.agg #[.int .i64 (unK v), .int .i64 (unN v)], .int .i64 (unE v)]) (by simp [results, Try.results37, go_sem, hc1]) rfl ⟨rfl, ?_⟩
  simp only [World.size_alloc] at hb1
  exact (((((Below.refl _ _).alloc (Nat.le_refl _) _).trans (hb1.mono (by omega))).setCell (Nat.le_refl _) _).setCell (Nat.le_refl _) _)

theorem tat_any (A : Option Addr) (len c : Nat) (zs : List Int) (f k : Int) (w : World) (B : Nat) (hz : Row .u8 w B A len zs) (hB : B ≤ w.heap.size) (hb : Bytes zs) (hn : len ≤ 140737488355328) :
    Calls Try.prog 37 #[.slice A len c, .int .i64 f, .int .i64 k] w fun e w' => e = .returned (.tuple #[.agg #[.int .i64 (atK zs f k), .int .i64 (atN zs f k)], .int .i64 (atE zs f k)]) ∧ Below w.heap.size w w' := by
  have hl := hz.1
  by_cases h : plcOk zs.length f k
  · obtain ⟨e1, e2, e3, e4⟩ := at_yes h
    rw [e2, e3, e4]
    unfold plcOk at h
    have e : 64 * f + 4 * k = f * 64 + 4 * k := by omega
    rw [e] at e1 ⊢
    exact tat_yes A len c zs f k w B hz hB hb hn h.1 h.2.1 h.2.2.1 h.2.2.2.1 (Lib.hid e1) _ (Lib.hid rfl)
  · obtain ⟨e2, e3, e4⟩ := at_no h
    rw [e2, e3, e4]
    unfold plcOk at h
    exact tat_no A len c zs f k w B hz hB hb hn (by omega)

theorem enumber_any (A : Option Addr) (len c : Nat) (f k : Int) (w : World) (hn : len ≤ 140737488355328) (fi : I64 f) (ki : I64 k) (hk : 0 ≤ k) (hk8 : k < 8) :
    Calls Try.prog 38 #[.slice A len c, .int .i64 f, .int .i64 k] w fun e w' => e = .returned (.int .i64 (plc len f k)) ∧ w' = w := by
  by_cases h0 : f < 0
  · have e : plc len f k = -1 := plc_no (by unfold plcOk; omega)
    rw [e]
    clear e
    go_enter Try.func38, Try.ntmps38
    go_wp2
    all_goals go_ret
    all_goals exact ⟨rfl, rfl⟩
  · by_cases h1 : 63 < f
    · have e : plc len f k = -1 := plc_no (by unfold plcOk; omega)
      rw [e]
      clear e
      go_enter Try.func38, Try.ntmps38
      go_wp2
      all_goals go_ret
      all_goals exact ⟨rfl, rfl⟩
    · by_cases h2 : (len : Int) < 64 * f + 4 * k + 4
      · have e : plc len f k = -1 := plc_no (by unfold plcOk; omega)
        rw [e]
        clear e
        go_enter Try.func38, Try.ntmps38
        go_wp2
        all_goals go_ret
        all_goals exact ⟨rfl, rfl⟩
      · have e : plc len f k = 64 * f + 4 * k := plc_yes (by unfold plcOk; omega)
        rw [e]
        clear e
        go_enter Try.func38, Try.ntmps38
        go_wp2
        all_goals go_ret
        all_goals exact ⟨rfl, rfl⟩
end Go.Proofs.Ytidfngplhjegpaa
