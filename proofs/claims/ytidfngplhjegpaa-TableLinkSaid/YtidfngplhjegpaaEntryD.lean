/- The document's DUnpack answers as entry.Unpack does: by trying all. -/
import Derived.Test.YtidfngplhjegpaaEntry
namespace Go.Proofs.Ytidfngplhjegpaa
open Go.RowKit

/-- Not found among the kinds below a, and the numbers below b of kind a. -/
def NoneUp (v : Int) (a b : Nat) : Prop := ∀ k n : Nat, (k < a ∨ (k = a ∧ n < b)) → n < 64 → ¬ (packE (k : Int) (n : Int) = 0 ∧ packV (k : Int) (n : Int) = v)
theorem noneUp_zero (v : Int) : NoneUp v 0 0 := fun k n h => by omega
theorem noneUp_next {v : Int} {a b : Nat} (h : NoneUp v a b) (hn : ¬ (packE (a : Int) (b : Int) = 0 ∧ packV (a : Int) (b : Int) = v)) : NoneUp v a (b + 1) := by
  intro k n hk hl
  rcases hk with hk | ⟨rfl, hk⟩
  · exact h k n (Or.inl hk) hl
  · by_cases e : n = b
    · subst e; exact hn
    · exact h k n (Or.inr ⟨rfl, by omega⟩) hl
theorem noneUp_row {v : Int} {a b : Nat} (h : NoneUp v a b) (hb : 64 ≤ b) : NoneUp v (a + 1) 0 := by
  intro k n hk hl
  rcases Nat.lt_or_ge k a with hk' | hk'
  · exact h k n (Or.inl hk') hl
  · exact h k n (Or.inr ⟨by omega, by omega⟩) hl
theorem packE_cases {k n : Int} (h : packE k n = 0) : 0 ≤ k ∧ k ≤ 2 ∧ 0 ≤ n ∧ n < 64 ∧ (k = 0 → n = 0) := by
  by_cases h1 : k < 0 ∨ 2 < k
  · rw [packE_kind h1] at h; omega
  · by_cases h2 : n < 0 ∨ 64 ≤ n ∨ (k = 0 ∧ n ≠ 0)
    · rw [packE_range h1 h2] at h; omega
    · omega
theorem noneUp_all {v : Int} (h : NoneUp v 3 0) : packE (v % 256) (v / 256) ≠ 0 := by
  intro he
  obtain ⟨h1, h2, h3, h4, h5⟩ := packE_cases he
  have hv := packV_ok he
  have e1 : (((v % 256).toNat : Nat) : Int) = v % 256 := Int.toNat_of_nonneg h1
  have e2 : (((v / 256).toNat : Nat) : Int) = v / 256 := Int.toNat_of_nonneg h3
  refine h (v % 256).toNat (v / 256).toNat (Or.inl (by omega)) (by omega) ?_
  rw [e1, e2]
  exact ⟨he, by omega⟩
theorem found_is {v : Int} {a b : Nat} (h1 : packE (a : Int) (b : Int) = 0) (h2 : packV (a : Int) (b : Int) = v) : unE v = 0 ∧ unK v = a ∧ unN v = b := by
  obtain ⟨g1, g2, g3, g4, g5⟩ := packE_cases h1
  have hv := packV_ok h1
  have m1 : v % 256 = a := by omega
  have m2 : v / 256 = b := by omega
  have := un_ok (v := v) (by rw [m1, m2]; exact h1)
  rw [m1, m2] at this; exact this

set_option maxHeartbeats 1000000 in
theorem dunpack_any (v : Int) (w : World) :
    Calls Try.prog 39 #[.int .i64 v] w fun e w' => e = .returned (.tuple #[.agg #[.int .i64 (unK v), .int .i64 (unN v)], .int .i64 (unE v)]) ∧ Below w.heap.size w w' := by
  go_enter Try.func39, Try.ntmps39
  go_wp2
  go_loopw [9] (fun i wr => ∃ a : Nat, a ≤ 3 ∧ i = .int .i64 a ∧ NoneUp v a 0 ∧ Below (w.heap.size + 1) (w.alloc (.cells #[.int .i64 0, .int .i64 0] 36)) wr) (fun i _ => (3 - intOf i).toNat)
  case atStart => exact ⟨0, by omega, rfl, noneUp_zero v, Below.refl _ _⟩
  case round =>
    obtain ⟨a, ha, rfl, hno, hb⟩ := hrel
    obtain ⟨wo, rfl⟩ : ∃ wo : World, wo = wr := ⟨_, rfl⟩
    have HN := Lib.hid hno
    clear hno
    by_cases hlt : a < 3
    · have hd : decide ((a : Int) < 3) = true := by simp; omega
      go_wp2
      go_loopw [12] (fun i wr => ∃ b : Nat, b ≤ 64 ∧ i = .int .i64 b ∧ NoneUp v a b ∧ Below (w.heap.size + 1) (w.alloc (.cells #[.int .i64 0, .int .i64 0] 36)) wr) (fun i _ => (64 - intOf i).toNat)
      case atStart => exact ⟨0, by omega, rfl, HN.out, hb⟩
      case round =>
        obtain ⟨b, hb64, rfl, hno, hbb⟩ := hrel
        have HN2 := Lib.hid hno
        have hsz : w.heap.size < wr.heap.size := by have := hbb.size; simp at this; omega
        have hc : wr.cell? ⟨w.heap.size, 0, none⟩ = some (.int .i64 0) := by rw [hbb.cell (p := ⟨w.heap.size, 0, none⟩) (by simp)]; simp [go_sem]
        have hc' : wr.cell? ⟨w.heap.size, 1, none⟩ = some (.int .i64 0) := by rw [hbb.cell (p := ⟨w.heap.size, 1, none⟩) (by simp)]; simp [go_sem]
        have hf : wr.frozen? ⟨w.heap.size, 0, none⟩ = false := by rw [hbb.frozen (p := ⟨w.heap.size, 0, none⟩) (by simp)]; simp [go_sem]
        have hf' : wr.frozen? ⟨w.heap.size, 1, none⟩ = false := by rw [hbb.frozen (p := ⟨w.heap.size, 1, none⟩) (by simp)]; simp [go_sem]
        clear hno HN
        by_cases hlt2 : b < 64
        · by_cases hp : packE (a : Int) (b : Int) = 0
          · by_cases hq : packV (a : Int) (b : Int) = v
            · obtain ⟨f1, f2, f3⟩ := found_is hp hq
              have t1 : (packE (a : Int) (b : Int) == 0) = true := by simp [hp]
              have t2 : (packV (a : Int) (b : Int) == v) = true := by simp [hq]
              have HF := Lib.hid f1; have HF2 := Lib.hid f2; have HF3 := Lib.hid f3; have HQ := Lib.hid hq; have HP := Lib.hid hp
              clear f1 f2 f3 hq hp
              go_wp2_with (go_at_call 41; refine (dpack_any _ _ _).mono ?_; rintro e w' ⟨rfl, rfl⟩)
              refine bodyPost_ret (v := .tuple #[.agg #[.int .i64 a, .int .i64 b], .int .i64 0]) (by simp [results, Try.results39, go_sem, hsz, hc, hc']) rfl ⟨by rw [HF.out, HF2.out, HF3.out], ?_⟩
              exact (((((Below.refl _ _).alloc (Nat.le_refl _) _).trans (hbb.mono (by omega))).setCell (Nat.le_refl _) _).setCell (Nat.le_refl _) _).alloc (by simp; omega) _ |>.alloc (by simp; omega) _
            · have t1 : (packE (a : Int) (b : Int) == 0) = true := by simp [hp]
              have t2 : (packV (a : Int) (b : Int) == v) = false := by simp [hq]
              have HQ := Lib.hid (noneUp_next HN2.out (fun h => hq h.2)); 
              clear hq hp HN2
              go_wp2_with (go_at_call 41; refine (dpack_any _ _ _).mono ?_; rintro e w' ⟨rfl, rfl⟩)
              go_roundw
              case rel => exact ⟨b + 1, by omega, by go_num, HQ.out, by go_grown⟩
              case measure => simp [intOf]; omega
          · have t1 : (packE (a : Int) (b : Int) == 0) = false := by simp [hp]
            have HQ := Lib.hid (noneUp_next HN2.out (fun h => hp h.1)); 
            clear hp HN2
            go_wp2_with (go_at_call 41; refine (dpack_any _ _ _).mono ?_; rintro e w' ⟨rfl, rfl⟩)
            go_roundw
            case rel => exact ⟨b + 1, by omega, by go_num, HQ.out, by go_grown⟩
            case measure => simp [intOf]; omega
        · have HQ := Lib.hid (noneUp_row HN2.out (by omega))
          go_wp2
          go_roundw
          case rel => exact ⟨a + 1, by omega, by go_num, HQ.out, by go_grown⟩
          case measure => simp [intOf]; omega
    · obtain ⟨f1, f2, f3⟩ := un_no (noneUp_all (by rw [show a = 3 by omega] at HN; exact HN.out))
      have HF := Lib.hid f1; have HF2 := Lib.hid f2; have HF3 := Lib.hid f3
      clear f1 f2 f3
      have hc : wo.cell? ⟨w.heap.size, 0, none⟩ = some (.int .i64 0) := by rw [hb.cell (p := ⟨w.heap.size, 0, none⟩) (by simp)]; simp [go_sem]
      have hc' : wo.cell? ⟨w.heap.size, 1, none⟩ = some (.int .i64 0) := by rw [hb.cell (p := ⟨w.heap.size, 1, none⟩) (by simp)]; simp [go_sem]
      have hf : wo.frozen? ⟨w.heap.size, 0, none⟩ = false := by rw [hb.frozen (p := ⟨w.heap.size, 0, none⟩) (by simp)]; simp [go_sem]
      have hf' : wo.frozen? ⟨w.heap.size, 1, none⟩ = false := by rw [hb.frozen (p := ⟨w.heap.size, 1, none⟩) (by simp)]; simp [go_sem]
      go_wp2
      refine bodyPost_ret (v := .tuple #[.agg #[.int .i64 0, .int .i64 0], .int .i64 1]) (by simp [results, Try.results39, go_sem, hc, hc']) rfl ⟨by rw [HF.out, HF2.out, HF3.out], ?_⟩
      exact (((((Below.refl _ _).alloc (Nat.le_refl _) _).trans (hb.mono (by omega))).setCell (Nat.le_refl _) _).setCell (Nat.le_refl _) _)
end Go.Proofs.Ytidfngplhjegpaa
