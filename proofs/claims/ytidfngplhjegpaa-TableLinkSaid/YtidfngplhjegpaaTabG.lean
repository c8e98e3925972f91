/- table.Get and the document's EGet: what they answer. -/
import Derived.Test.YtidfngplhjegpaaTabL
namespace Go.Proofs.Ytidfngplhjegpaa
open Go.RowKit
set_option linter.unusedVariables false

theorem get_cases (zs : List Int) (root page : Int) :
    (leafE zs root page = 3 ∧ getE zs root page = 0 ∧ getK zs root page = 0 ∧ getN zs root page = 0) ∨
    ((leafE zs root page = 1 ∨ leafE zs root page = 2) ∧ getE zs root page = leafE zs root page ∧ getK zs root page = 0 ∧ getN zs root page = 0) ∨
    (leafE zs root page = 0 ∧ 0 ≤ page ∧ page < 64 ∧ getE zs root page = atE zs (leafV zs root page) (page % 8) ∧ getK zs root page = atK zs (leafV zs root page) (page % 8) ∧ getN zs root page = atN zs (leafV zs root page) (page % 8)) := by
  unfold getE getK getN
  rcases leafE_rng zs root page with h | h | h | h
  · right; right
    have hp : 0 ≤ page ∧ page < 64 := by
      unfold leafE at h
      split at h
      · cases h
      · omega
    simp only [h]
    exact ⟨trivial, hp.1, hp.2, rfl, rfl, rfl⟩
  · right; left; simp [h]
  · right; left; simp [h]
  · left; simp [h]

set_option maxHeartbeats 4000000 in
theorem tget_any (A : Option Addr) (len c : Nat) (zs : List Int) (root page : Int) (w : World) (B : Nat) (hz : Row .u8 w B A len zs) (hB : B ≤ w.heap.size) (hb : Bytes zs) (hn : len ≤ 140737488355328) :
    Calls Try.prog 23 #[.slice A len c, .int .i64 root, .int .i64 page] w fun e w' => e = .returned (.tuple #[.agg #[.int .i64 (getK zs root page), .int .i64 (getN zs root page)], .int .i64 (getE zs root page)]) ∧ Below w.heap.size w w' := by
  have HLF := Lib.hid (fun W (hW : Below B w W) => leaf_any A len c zs root page W B (hz.below hW) (Nat.le_trans hB hW.size) hb hn)
  have HAT := Lib.hid (fun W f k (hW : Below B w W) => tat_any A len c zs f k W B (hz.below hW) (Nat.le_trans hB hW.size) hb hn)
  clear hz hb
  rcases get_cases zs root page with ⟨h, e1, e2, e3⟩ | ⟨h, e1, e2, e3⟩ | ⟨h, h0, h1, e1, e2, e3⟩
  · rw [e1, e2, e3]
    rw [h] at HLF
    clear e1 e2 e3 h
    go_enter Try.func23, Try.ntmps23
    go_wp2_with (go_at_call 21; refine (HLF.out _ ((Below.refl _ _).alloc hB _)).mono ?_; rintro e w1 ⟨rfl, hb1⟩; obtain ⟨hc1, hf1⟩ := bcell hb1; have hz1 : w.heap.size < w1.heap.size := (by have := hb1.size; simp at this; omega))
    refine bodyPost_ret (v := .tuple #[.agg #[.int .i64 0, .int .i64 0], .int .i64 0]) (by simp [results, Try.results23, go_sem, hc1]) rfl ⟨rfl, ?_⟩
    simp only [World.size_alloc] at hb1
    exact ((((Below.refl _ _).alloc (Nat.le_refl _) _).trans (hb1.mono (by omega))).setCell (Nat.le_refl _) _).setCell (Nat.le_refl _) _
  · rw [e1, e2, e3]
    generalize leafE zs root page = E at *
    clear e1 e2 e3
    rcases h with rfl | rfl
    all_goals
      go_enter Try.func23, Try.ntmps23
      go_wp2_with (go_at_call 21; refine (HLF.out _ ((Below.refl _ _).alloc hB _)).mono ?_; rintro e w1 ⟨rfl, hb1⟩; obtain ⟨hc1, hf1⟩ := bcell hb1; have hz1 : w.heap.size < w1.heap.size := (by have := hb1.size; simp at this; omega))
      first
        | refine bodyPost_ret (v := .tuple #[.agg #[.int .i64 0, .int .i64 0], .int .i64 1]) (by simp [results, Try.results23, go_sem, hc1]) rfl ⟨rfl, ?_⟩
        | refine bodyPost_ret (v := .tuple #[.agg #[.int .i64 0, .int .i64 0], .int .i64 2]) (by simp [results, Try.results23, go_sem, hc1]) rfl ⟨rfl, ?_⟩
      simp only [World.size_alloc] at hb1
      exact ((((Below.refl _ _).alloc (Nat.le_refl _) _).trans (hb1.mono (by omega))).setCell (Nat.le_refl _) _).setCell (Nat.le_refl _) _
  · rw [e1, e2, e3]
    rw [h] at HLF
    have hv := leafV_rng zs root page
    generalize leafV zs root page = v at *
    clear e1 e2 e3 h
    have hbl := @Below.trans
    go_enter Try.func23, Try.ntmps23
    go_wp2_with fail
    refine (HLF.out _ ((Below.refl _ _).alloc hB _)).mono ?_
    rintro e w1 ⟨rfl, hb1⟩
    simp only [World.size_alloc] at hb1
    have hz1 : w.heap.size + 1 ≤ w1.heap.size := by have := hb1.size; simp at this; omega
    have hbw1 : Below w.heap.size w w1 := ((Below.refl _ _).alloc (Nat.le_refl _) _).trans (hb1.mono (by omega))
    have hc1 : ∀ o, w1.cell? ⟨w.heap.size, o, none⟩ = (#[Value.int .i64 0, .int .i64 0] : Array Value)[o]? := fun o => by rw [hb1.cell (p := ⟨w.heap.size, o, none⟩) (by simp)]; exact World.cell?_alloc_new _ _ _ _
    have hf1 : ∀ o, w1.frozen? ⟨w.heap.size, o, none⟩ = false := fun o => by rw [hb1.frozen (p := ⟨w.heap.size, o, none⟩) (by simp)]; simp [go_sem]
    clear hbl
    go_wp2_with fail
    refine (HAT.out _ v (page % 8) (hbw1.mono hB)).mono ?_
    rintro e w2 ⟨rfl, hb2⟩
    have hz2 := hb2.size
    have hc2 : ∀ o, w2.cell? ⟨w.heap.size, o, none⟩ = (#[Value.int .i64 0, .int .i64 0] : Array Value)[o]? := fun o => (hb2.cell (p := ⟨w.heap.size, o, none⟩) (by show w.heap.size < _; omega)).trans (hc1 o)
    have hf2 : ∀ o, w2.frozen? ⟨w.heap.size, o, none⟩ = false := fun o => (hb2.frozen (p := ⟨w.heap.size, o, none⟩) (by show w.heap.size < _; omega)).trans (hf1 o)
    clear hc1 hf1
    go_wp2
    refine bodyPost_ret (v := .tuple #[.agg #[.int .i64 (atK zs v (page % 8)), .int .i64 (atN zs v (page % 8))], .int .i64 (atE zs v (page % 8))]) (by simp [results, Try.results23, go_sem, hc2]) rfl ⟨rfl, ?_⟩
    exact ((hbw1.trans (hb2.mono (by omega))).setCell (Nat.le_refl _) _).setCell (Nat.le_refl _) _

set_option maxHeartbeats 4000000 in
theorem eget_any (A : Option Addr) (len c : Nat) (zs : List Int) (root page : Int) (w : World) (B : Nat) (hz : Row .u8 w B A len zs) (hB : B ≤ w.heap.size) (hb : Bytes zs) (hn : len ≤ 140737488355328) (ri : I64 root) :
    Calls Try.prog 24 #[.slice A len c, .int .i64 root, .int .i64 page] w fun e w' => e = .returned (.tuple #[.agg #[.int .i64 (getK zs root page), .int .i64 (getN zs root page)], .int .i64 (getE zs root page)]) ∧ Below w.heap.size w w' := by
  have HLF := Lib.hid (fun W (hW : Below B w W) => eleaf_any A len c zs root page W B (hz.below hW) (Nat.le_trans hB hW.size) hb hn ri)
  have HLN := Lib.hid hz.1
  rcases get_cases zs root page with ⟨h, e1, e2, e3⟩ | ⟨h, e1, e2, e3⟩ | ⟨h, h0, h1, e1, e2, e3⟩
  · rw [e1, e2, e3]
    rw [h] at HLF
    clear e1 e2 e3 h hz hb
    go_enter Try.func24, Try.ntmps24
    go_wp2_with (go_at_call 22; refine (HLF.out _ ((Below.refl _ _).alloc hB _)).mono ?_; rintro e w1 ⟨rfl, hb1⟩; obtain ⟨hc1, hf1⟩ := bcell hb1; have hz1 : w.heap.size < w1.heap.size := (by have := hb1.size; simp at this; omega))
    refine bodyPost_ret (v := .tuple #[.agg #[.int .i64 0, .int .i64 0], .int .i64 0]) (by simp [results, Try.results24, go_sem, hc1]) rfl ⟨rfl, ?_⟩
    simp only [World.size_alloc] at hb1
    exact ((((Below.refl _ _).alloc (Nat.le_refl _) _).trans (hb1.mono (by omega))).setCell (Nat.le_refl _) _).setCell (Nat.le_refl _) _
  · rw [e1, e2, e3]
    generalize leafE zs root page = E at *
    clear e1 e2 e3 hz hb
    rcases h with rfl | rfl
    all_goals
      go_enter Try.func24, Try.ntmps24
      go_wp2_with (go_at_call 22; refine (HLF.out _ ((Below.refl _ _).alloc hB _)).mono ?_; rintro e w1 ⟨rfl, hb1⟩; obtain ⟨hc1, hf1⟩ := bcell hb1; have hz1 : w.heap.size < w1.heap.size := (by have := hb1.size; simp at this; omega))
      first
        | refine bodyPost_ret (v := .tuple #[.agg #[.int .i64 0, .int .i64 0], .int .i64 1]) (by simp [results, Try.results24, go_sem, hc1]) rfl ⟨rfl, ?_⟩
        | refine bodyPost_ret (v := .tuple #[.agg #[.int .i64 0, .int .i64 0], .int .i64 2]) (by simp [results, Try.results24, go_sem, hc1]) rfl ⟨rfl, ?_⟩
      simp only [World.size_alloc] at hb1
      exact ((((Below.refl _ _).alloc (Nat.le_refl _) _).trans (hb1.mono (by omega))).setCell (Nat.le_refl _) _).setCell (Nat.le_refl _) _
  · rw [e1, e2, e3]
    rw [h] at HLF
    have hv := leafV_rng zs root page
    generalize leafV zs root page = v at *
    clear e1 e2 e3 h
    have HEN := Lib.hid (fun W => enumber_any A len c v (page % 8) W hn (by unfold I64; omega) (by unfold I64; omega) (by omega) (by omega))
    by_cases hp : plcOk zs.length v (page % 8)
    · obtain ⟨a1, a2, a3, a4⟩ := at_yes hp
      have hpl := plc_yes hp
      rw [HLN.out] at hpl
      have hp0 : 0 ≤ 64 * v + 4 * (page % 8) := by unfold plcOk at hp; omega
      have hp1 : 64 * v + 4 * (page % 8) ≤ 9223372036854775807 := by unfold plcOk at hp; omega
      rw [hpl] at HEN
      have HG := Lib.hid (fun W (hW : Below B w W) => aget_any A len c zs (64 * v + 4 * (page % 8)) 4 W B (hz.below hW) hb hn hp1)
      rw [a1] at HG
      rw [a2, a3, a4]
      clear a1 a2 a3 a4 hpl hp hz hb
      generalize 64 * v + 4 * (page % 8) = q at *
      generalize rgetV zs q 4 = x at *
      have HU := Lib.hid (fun W => dunpack_any x W)
      generalize unE x = E at *
      generalize unK x = K at *
      generalize unN x = N at *
      go_enter Try.func24, Try.ntmps24
      go_wp2_with fail
      refine (HLF.out _ ((Below.refl _ _).alloc hB _)).mono ?_
      rintro e w1 ⟨rfl, hb1⟩
      simp only [World.size_alloc] at hb1
      have hz1 : w.heap.size + 1 ≤ w1.heap.size := by have := hb1.size; simp at this; omega
      have hbw1 : Below w.heap.size w w1 := ((Below.refl _ _).alloc (Nat.le_refl _) _).trans (hb1.mono (by omega))
      have hc1 : ∀ o, w1.cell? ⟨w.heap.size, o, none⟩ = (#[Value.int .i64 0, .int .i64 0] : Array Value)[o]? := fun o => by rw [hb1.cell (p := ⟨w.heap.size, o, none⟩) (by simp)]; exact World.cell?_alloc_new _ _ _ _
      have hf1 : ∀ o, w1.frozen? ⟨w.heap.size, o, none⟩ = false := fun o => by rw [hb1.frozen (p := ⟨w.heap.size, o, none⟩) (by simp)]; simp [go_sem]
      go_wp2_with fail
      refine (HEN.out _).mono ?_
      rintro e w2 ⟨rfl, hw⟩; rw [hw]; clear hw w2
      go_wp2_with fail
      refine (HG.out _ (hbw1.mono hB)).mono ?_
      rintro e w2 ⟨rfl, hw⟩; rw [hw]; clear hw w2
      go_wp2_with fail
      refine (HU.out _).mono ?_
      rintro e w2 ⟨rfl, hb2⟩
      have hz2 := hb2.size
      have hc2 : ∀ o, w2.cell? ⟨w.heap.size, o, none⟩ = (#[Value.int .i64 0, .int .i64 0] : Array Value)[o]? := fun o => (hb2.cell (p := ⟨w.heap.size, o, none⟩) (by show w.heap.size < _; omega)).trans (hc1 o)
      have hf2 : ∀ o, w2.frozen? ⟨w.heap.size, o, none⟩ = false := fun o => (hb2.frozen (p := ⟨w.heap.size, o, none⟩) (by show w.heap.size < _; omega)).trans (hf1 o)
      clear hc1 hf1
      go_wp2
      refine bodyPost_ret (v := .tuple #[.agg #[.int .i64 K, .int .i64 N], .int .i64 E]) (by simp [results, Try.results24, go_sem, hc2]) rfl ⟨rfl, ?_⟩
      exact ((hbw1.trans (hb2.mono (by omega))).setCell (Nat.le_refl _) _).setCell (Nat.le_refl _) _
    · obtain ⟨a2, a3, a4⟩ := at_no hp
      have hpl := plc_no hp
      rw [HLN.out] at hpl
      rw [hpl] at HEN
      rw [a2, a3, a4]
      clear a2 a3 a4 hpl hp hz hb
      go_enter Try.func24, Try.ntmps24
      go_wp2_with fail
      refine (HLF.out _ ((Below.refl _ _).alloc hB _)).mono ?_
      rintro e w1 ⟨rfl, hb1⟩
      simp only [World.size_alloc] at hb1
      have hz1 : w.heap.size + 1 ≤ w1.heap.size := by have := hb1.size; simp at this; omega
      have hbw1 : Below w.heap.size w w1 := ((Below.refl _ _).alloc (Nat.le_refl _) _).trans (hb1.mono (by omega))
      have hc1 : ∀ o, w1.cell? ⟨w.heap.size, o, none⟩ = (#[Value.int .i64 0, .int .i64 0] : Array Value)[o]? := fun o => by rw [hb1.cell (p := ⟨w.heap.size, o, none⟩) (by simp)]; exact World.cell?_alloc_new _ _ _ _
      have hf1 : ∀ o, w1.frozen? ⟨w.heap.size, o, none⟩ = false := fun o => by rw [hb1.frozen (p := ⟨w.heap.size, o, none⟩) (by simp)]; simp [go_sem]
      go_wp2_with fail
      refine (HEN.out _).mono ?_
      rintro e w2 ⟨rfl, hw⟩; rw [hw]; clear hw w2
      go_wp2
      refine bodyPost_ret (v := .tuple #[.agg #[.int .i64 0, .int .i64 0], .int .i64 2]) (by simp [results, Try.results24, go_sem, hc1]) rfl ⟨rfl, ?_⟩
      exact (hbw1.setCell (Nat.le_refl _) _).setCell (Nat.le_refl _) _
end Go.Proofs.Ytidfngplhjegpaa
