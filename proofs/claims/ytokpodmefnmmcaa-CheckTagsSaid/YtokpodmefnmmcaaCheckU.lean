/- CheckTags: its walk. -/
import Derived.Test.YtokpodmefnmmcaaCheckM
namespace Go.Proofs.Ytokpodmefnmmcaa
open Go.RowKit
set_option linter.unusedVariables false

theorem Row.take {k : IntKind} {w : World} {B : Nat} {A : Option Addr} {n j : Nat} {zs : List Int} (h : Row k w B A n zs) (hj : j ≤ n) : Row k w B A j (zs.take j) :=
  ⟨by rw [List.length_take, h.1]; omega, Nat.le_trans hj h.2.1, fun h0 => by
    obtain ⟨b, off, e, hB, hc⟩ := h.2.2 (by omega)
    refine ⟨b, off, e, hB, fun i hi => ?_⟩
    rw [hc i (by omega)]
    simp [List.getD, hi]⟩
theorem unlike_some {zs : List Int} {tag : Int} {k : Nat} (h : unlike zs tag = some k) : k < zs.length ∧ zs.getD k 0 ≠ tag ∧ AllTag zs tag k := by
  unfold unlike at h
  rw [List.findIdx?_eq_some_iff_getElem] at h
  obtain ⟨hk, h1, h2⟩ := h
  refine ⟨hk, by rw [getD_get hk]; simpa using h1, fun i hi => ?_⟩
  have := h2 i hi
  rw [getD_get (by omega)]; simpa using this
theorem unlike_no {zs : List Int} {tag : Int} (h : unlike zs tag = none) : AllTag zs tag zs.length := by
  intro i hi
  unfold unlike at h
  rw [List.findIdx?_eq_none_iff] at h
  have := h (zs[i]) (List.getElem_mem hi)
  rw [getD_get hi]; simpa using this
theorem unlike_take {zs : List Int} {tag : Int} {k : Nat} (h : AllTag zs tag k) (hk : k ≤ zs.length) : unlike (zs.take k) tag = none := by
  apply unlike_none
  intro i hi
  rw [List.length_take] at hi
  have := h i (by omega)
  rw [← this]
  simp [List.getD, show i < k by omega]

set_option maxHeartbeats 4000000 in
theorem checkTags_a {w : World} (r : Int) (key : Int) (sd : Bool) (way : Int) (A : Option Addr) (n c : Nat) (zs : List Int) (hz : Row .i64 w w.heap.size A n zs) (hcap : n ≤ c) (hmax : c ≤ maxLen) (tag : Int)  :
    Calls Try.prog 11 #[.agg #[.int .i64 r, .int .i64 key, .bool false, .bool sd], .int .i64 way, .slice A n c, .int .i64 tag] w fun e w' => e = .returned (.bool true) ∧ Below w.heap.size w w' := by
  have hm := hz.2.1
  have hl := hz.1
  unfold maxLen at hm hmax
  have HL := Lib.hid hl
  have HZ := Lib.hid hz
  clear hz hl
  have f0 : tagsF false way zs tag = 0 := by simp [tagsF]
  have f1 : tagsK false way zs tag = 0 := by simp [tagsK]
  go_enter Try.func11, Try.ntmps11
  go_wp2_with fail
  refine (alive7_any _).mono ?_
  rintro e w1 ⟨rfl, hb1⟩
  obtain ⟨hc1, hf1⟩ := bcell hb1
  have hz1 : w.heap.size + 1 ≤ w1.heap.size := by have := hb1.size; simp at this; omega
  have y0 : w.heap.size < w1.heap.size := by omega
  have HZ1 := Lib.hid (show Row .i64 w1 w.heap.size A n zs from HZ.out.below (by repeat' first | exact Below.refl _ _ | refine Below.alloc ?_ ?_ _ | refine Below.drew ?_ | refine Below.setCell ?_ ?_ _ | refine below_thru ?_ (by assumption) ?_ | omega | (simp; done) | (simp; omega)))
  go_wp2_with fail
  refine (tags_any r key false sd way A n c zs tag _ w.heap.size HZ1.out (by omega)).mono ?_
  rintro e w2 ⟨rfl, hb2⟩
  obtain ⟨hc2, hf2⟩ := bcell hb2
  have hz2 : w.heap.size < w2.heap.size := by have := hb2.size; omega
  have HZ2 := Lib.hid (show Row .i64 w2 w.heap.size A n zs from HZ1.out.below (by repeat' first | exact Below.refl _ _ | refine Below.alloc ?_ ?_ _ | refine Below.drew ?_ | refine Below.setCell ?_ ?_ _ | refine below_thru ?_ (by assumption) ?_ | omega | (simp; done) | (simp; omega)))
  have c0 : w2.cell? ⟨w.heap.size, 0, none⟩ = some (.int .i64 r) := by rw [hc2 _ _ (by omega), hc1 _ _ (by simp)]; simp [go_sem]
  have c1 : w2.cell? ⟨w.heap.size, 1, none⟩ = some (.int .i64 key) := by rw [hc2 _ _ (by omega), hc1 _ _ (by simp)]; simp [go_sem]
  have c2 : w2.cell? ⟨w.heap.size, 2, none⟩ = some (.bool false) := by rw [hc2 _ _ (by omega), hc1 _ _ (by simp)]; simp [go_sem]
  have c3 : w2.cell? ⟨w.heap.size, 3, none⟩ = some (.bool sd) := by rw [hc2 _ _ (by omega), hc1 _ _ (by simp)]; simp [go_sem]
  clear hc1 hc2 hf1 hf2
  go_wp2
  go_loop [29] (fun i => ∃ k : Nat, k ≤ n ∧ i = .int .i64 k) (fun i => n - (intOf i).toNat)
  case atStart => exact ⟨0, by omega, rfl⟩
  case round =>
    obtain ⟨k, hk, rfl⟩ := hrel
    by_cases hlt : k < n
    · obtain ⟨b, off, rfl, hB, hc⟩ := HZ2.out.at_ hlt
      have hB2 : b < w2.heap.size := by omega
      go_wp2
      go_round
      case rel => exact ⟨k + 1, by omega, by go_num⟩
      case measure => simp [intOf]; omega
    · go_wp2
      go_ret
      exact ⟨rfl, (by repeat' first | exact Below.refl _ _ | refine Below.alloc ?_ ?_ _ | refine Below.drew ?_ | refine Below.setCell ?_ ?_ _ | refine below_thru ?_ (by assumption) ?_ | omega | (simp; done) | (simp; omega))⟩

set_option maxHeartbeats 4000000 in
theorem checkTags_b {w : World} (r : Int) (key : Int) (sd : Bool) (A : Option Addr) (n c : Nat) (zs : List Int) (hz : Row .i64 w w.heap.size A n zs) (hcap : n ≤ c) (hmax : c ≤ maxLen) (tag : Int)  :
    Calls Try.prog 11 #[.agg #[.int .i64 r, .int .i64 key, .bool true, .bool sd], .int .i64 4, .slice A n c, .int .i64 tag] w fun e w' => e = .returned (.bool true) ∧ Below w.heap.size w w' := by
  have hm := hz.2.1
  have hl := hz.1
  unfold maxLen at hm hmax
  have HL := Lib.hid hl
  have HZ := Lib.hid hz
  clear hz hl
  have f0 : tagsF true 4 zs tag = 0 := by simp [tagsF]
  have f1 : tagsK true 4 zs tag = 0 := by simp [tagsK]
  go_enter Try.func11, Try.ntmps11
  go_wp2_with fail
  refine (alive7_any _).mono ?_
  rintro e w1 ⟨rfl, hb1⟩
  obtain ⟨hc1, hf1⟩ := bcell hb1
  have hz1 : w.heap.size + 1 ≤ w1.heap.size := by have := hb1.size; simp at this; omega
  have y0 : w.heap.size < w1.heap.size := by omega
  have HZ1 := Lib.hid (show Row .i64 w1 w.heap.size A n zs from HZ.out.below (by repeat' first | exact Below.refl _ _ | refine Below.alloc ?_ ?_ _ | refine Below.drew ?_ | refine Below.setCell ?_ ?_ _ | refine below_thru ?_ (by assumption) ?_ | omega | (simp; done) | (simp; omega)))
  go_wp2_with fail
  refine (tags_any r key true sd 4 A n c zs tag _ w.heap.size HZ1.out (by omega)).mono ?_
  rintro e w2 ⟨rfl, hb2⟩
  obtain ⟨hc2, hf2⟩ := bcell hb2
  have hz2 : w.heap.size < w2.heap.size := by have := hb2.size; omega
  have HZ2 := Lib.hid (show Row .i64 w2 w.heap.size A n zs from HZ1.out.below (by repeat' first | exact Below.refl _ _ | refine Below.alloc ?_ ?_ _ | refine Below.drew ?_ | refine Below.setCell ?_ ?_ _ | refine below_thru ?_ (by assumption) ?_ | omega | (simp; done) | (simp; omega)))
  have c0 : w2.cell? ⟨w.heap.size, 0, none⟩ = some (.int .i64 r) := by rw [hc2 _ _ (by omega), hc1 _ _ (by simp)]; simp [go_sem]
  have c1 : w2.cell? ⟨w.heap.size, 1, none⟩ = some (.int .i64 key) := by rw [hc2 _ _ (by omega), hc1 _ _ (by simp)]; simp [go_sem]
  have c2 : w2.cell? ⟨w.heap.size, 2, none⟩ = some (.bool true) := by rw [hc2 _ _ (by omega), hc1 _ _ (by simp)]; simp [go_sem]
  have c3 : w2.cell? ⟨w.heap.size, 3, none⟩ = some (.bool sd) := by rw [hc2 _ _ (by omega), hc1 _ _ (by simp)]; simp [go_sem]
  clear hc1 hc2 hf1 hf2
  go_wp2
  go_loop [29] (fun i => ∃ k : Nat, k ≤ n ∧ i = .int .i64 k) (fun i => n - (intOf i).toNat)
  case atStart => exact ⟨0, by omega, rfl⟩
  case round =>
    obtain ⟨k, hk, rfl⟩ := hrel
    by_cases hlt : k < n
    · obtain ⟨b, off, rfl, hB, hc⟩ := HZ2.out.at_ hlt
      have hB2 : b < w2.heap.size := by omega
      go_wp2
      go_round
      case rel => exact ⟨k + 1, by omega, by go_num⟩
      case measure => simp [intOf]; omega
    · go_wp2
      go_ret
      exact ⟨rfl, (by repeat' first | exact Below.refl _ _ | refine Below.alloc ?_ ?_ _ | refine Below.drew ?_ | refine Below.setCell ?_ ?_ _ | refine below_thru ?_ (by assumption) ?_ | omega | (simp; done) | (simp; omega))⟩

set_option maxHeartbeats 4000000 in
theorem checkTags_c {w : World} (r : Int) (key : Int) (sd : Bool) (way : Int) (A : Option Addr) (n c : Nat) (zs : List Int) (hz : Row .i64 w w.heap.size A n zs) (hcap : n ≤ c) (hmax : c ≤ maxLen) (tag : Int) (hw : (way != 4) = true) (hn : Hid (AllTag zs tag zs.length)) (f0 : tagsF true way zs tag = 0) (f1 : tagsK true way zs tag = 0) :
    Calls Try.prog 11 #[.agg #[.int .i64 r, .int .i64 key, .bool true, .bool sd], .int .i64 way, .slice A n c, .int .i64 tag] w fun e w' => e = .returned (.bool true) ∧ Below w.heap.size w w' := by
  have hm := hz.2.1
  have hl := hz.1
  unfold maxLen at hm hmax
  have HL := Lib.hid hl
  have HZ := Lib.hid hz
  clear hz hl
  go_enter Try.func11, Try.ntmps11
  go_wp2_with fail
  refine (alive7_any _).mono ?_
  rintro e w1 ⟨rfl, hb1⟩
  obtain ⟨hc1, hf1⟩ := bcell hb1
  have hz1 : w.heap.size + 1 ≤ w1.heap.size := by have := hb1.size; simp at this; omega
  have y0 : w.heap.size < w1.heap.size := by omega
  have HZ1 := Lib.hid (show Row .i64 w1 w.heap.size A n zs from HZ.out.below (by repeat' first | exact Below.refl _ _ | refine Below.alloc ?_ ?_ _ | refine Below.drew ?_ | refine Below.setCell ?_ ?_ _ | refine below_thru ?_ (by assumption) ?_ | omega | (simp; done) | (simp; omega)))
  go_wp2_with fail
  refine (tags_any r key true sd way A n c zs tag _ w.heap.size HZ1.out (by omega)).mono ?_
  rintro e w2 ⟨rfl, hb2⟩
  obtain ⟨hc2, hf2⟩ := bcell hb2
  have hz2 : w.heap.size < w2.heap.size := by have := hb2.size; omega
  have HZ2 := Lib.hid (show Row .i64 w2 w.heap.size A n zs from HZ1.out.below (by repeat' first | exact Below.refl _ _ | refine Below.alloc ?_ ?_ _ | refine Below.drew ?_ | refine Below.setCell ?_ ?_ _ | refine below_thru ?_ (by assumption) ?_ | omega | (simp; done) | (simp; omega)))
  have c0 : w2.cell? ⟨w.heap.size, 0, none⟩ = some (.int .i64 r) := by rw [hc2 _ _ (by omega), hc1 _ _ (by simp)]; simp [go_sem]
  have c1 : w2.cell? ⟨w.heap.size, 1, none⟩ = some (.int .i64 key) := by rw [hc2 _ _ (by omega), hc1 _ _ (by simp)]; simp [go_sem]
  have c2 : w2.cell? ⟨w.heap.size, 2, none⟩ = some (.bool true) := by rw [hc2 _ _ (by omega), hc1 _ _ (by simp)]; simp [go_sem]
  have c3 : w2.cell? ⟨w.heap.size, 3, none⟩ = some (.bool sd) := by rw [hc2 _ _ (by omega), hc1 _ _ (by simp)]; simp [go_sem]
  clear hc1 hc2 hf1 hf2
  go_wp2
  go_loop [29] (fun i => ∃ k : Nat, k ≤ n ∧ i = .int .i64 k) (fun i => n - (intOf i).toNat)
  case atStart => exact ⟨0, by omega, rfl⟩
  case round =>
    obtain ⟨k, hk, rfl⟩ := hrel
    by_cases hlt : k < n
    · obtain ⟨b, off, rfl, hB, hc⟩ := HZ2.out.at_ hlt
      have hB2 : b < w2.heap.size := by omega
      have ht : (zs[k]?.getD 0 != tag) = false := by have := hn.out k (by rw [HL.out]; exact hlt); simpa using this
      go_wp2
      go_round
      case rel => exact ⟨k + 1, by omega, by go_num⟩
      case measure => simp [intOf]; omega
    · go_wp2
      go_ret
      exact ⟨rfl, (by repeat' first | exact Below.refl _ _ | refine Below.alloc ?_ ?_ _ | refine Below.drew ?_ | refine Below.setCell ?_ ?_ _ | refine below_thru ?_ (by assumption) ?_ | omega | (simp; done) | (simp; omega))⟩

set_option maxHeartbeats 4000000 in
theorem checkTags_d {w : World} (r : Int) (key : Int) (sd : Bool) (way : Int) (A : Option Addr) (n c : Nat) (zs : List Int) (hz : Row .i64 w w.heap.size A n zs) (hcap : n ≤ c) (hmax : c ≤ maxLen) (tag : Int) (k : Nat) (hw : (way != 4) = true) (hk : k < n) (ht : (zs[k]?.getD 0 == tag) = false) (f0 : tagsF true way zs tag = 4) (f1 : tagsK true way zs tag = (k : Int)) (f2 : tagsF true way (zs.take k) tag = 0) (f3 : tagsK true way (zs.take k) tag = 0) :
    Calls Try.prog 11 #[.agg #[.int .i64 r, .int .i64 key, .bool true, .bool sd], .int .i64 way, .slice A n c, .int .i64 tag] w fun e w' => e = .returned (.bool true) ∧ Below w.heap.size w w' := by
  have hm := hz.2.1
  have hl := hz.1
  unfold maxLen at hm hmax
  have HL := Lib.hid hl
  have HZ := Lib.hid hz
  clear hz hl
  go_enter Try.func11, Try.ntmps11
  go_wp2_with fail
  refine (alive7_any _).mono ?_
  rintro e w1 ⟨rfl, hb1⟩
  obtain ⟨hc1, hf1⟩ := bcell hb1
  have hz1 : w.heap.size + 1 ≤ w1.heap.size := by have := hb1.size; simp at this; omega
  have y0 : w.heap.size < w1.heap.size := by omega
  have HZ1 := Lib.hid (show Row .i64 w1 w.heap.size A n zs from HZ.out.below (by repeat' first | exact Below.refl _ _ | refine Below.alloc ?_ ?_ _ | refine Below.drew ?_ | refine Below.setCell ?_ ?_ _ | refine below_thru ?_ (by assumption) ?_ | omega | (simp; done) | (simp; omega)))
  go_wp2_with fail
  refine (tags_any r key true sd way A n c zs tag _ w.heap.size HZ1.out (by omega)).mono ?_
  rintro e w2 ⟨rfl, hb2⟩
  obtain ⟨hc2, hf2⟩ := bcell hb2
  have hz2 : w.heap.size < w2.heap.size := by have := hb2.size; omega
  have HZ2 := Lib.hid (show Row .i64 w2 w.heap.size A n zs from HZ1.out.below (by repeat' first | exact Below.refl _ _ | refine Below.alloc ?_ ?_ _ | refine Below.drew ?_ | refine Below.setCell ?_ ?_ _ | refine below_thru ?_ (by assumption) ?_ | omega | (simp; done) | (simp; omega)))
  have c0 : w2.cell? ⟨w.heap.size, 0, none⟩ = some (.int .i64 r) := by rw [hc2 _ _ (by omega), hc1 _ _ (by simp)]; simp [go_sem]
  have c1 : w2.cell? ⟨w.heap.size, 1, none⟩ = some (.int .i64 key) := by rw [hc2 _ _ (by omega), hc1 _ _ (by simp)]; simp [go_sem]
  have c2 : w2.cell? ⟨w.heap.size, 2, none⟩ = some (.bool true) := by rw [hc2 _ _ (by omega), hc1 _ _ (by simp)]; simp [go_sem]
  have c3 : w2.cell? ⟨w.heap.size, 3, none⟩ = some (.bool sd) := by rw [hc2 _ _ (by omega), hc1 _ _ (by simp)]; simp [go_sem]
  clear hc1 hc2 hf1 hf2
  obtain ⟨b, off, rfl, hB, hc⟩ := HZ2.out.at_ hk
  have hB2 : b < w2.heap.size := by omega
  have hkc : k ≤ c := by omega
  have hk1 : ((k : Int) < (n : Int)) := by omega
  have hk2 : ((k : Int) ≤ (c : Int)) := by omega
  go_wp2_with fail
  go_region_held3 (fun w' => w'.cell? ⟨w.heap.size, 0, none⟩ = some (.int .i64 r) ∧ w'.cell? ⟨w.heap.size, 1, none⟩ = some (.int .i64 key) ∧ w'.cell? ⟨w.heap.size, 2, none⟩ = some (.bool true) ∧ w'.cell? ⟨w.heap.size, 3, none⟩ = some (.bool sd))
    (first | (simp [go_sem, *]; done) | ((repeat' apply And.intro) <;> exact keepc (by assumption) (by simp [go_sem, *]) (by simp; omega)))
    (first
      | (go_at_call 27; refine (tags_any r key true sd way _ k c (zs.take k) tag _ w.heap.size (by exact (HZ2.out.take (by omega)).below (by repeat' first | exact Below.refl _ _ | refine Below.alloc ?_ ?_ _ | refine Below.drew ?_ | refine Below.setCell ?_ ?_ _ | refine below_thru ?_ (by assumption) ?_ | omega | (simp; done) | (simp; omega))) (by simp; omega)).mono ?_; rintro e w3 ⟨rfl, hb3⟩))
  go_wp2
  all_goals go_ret
  all_goals exact ⟨rfl, (by repeat' first | exact Below.refl _ _ | refine Below.alloc ?_ ?_ _ | refine Below.drew ?_ | refine Below.setCell ?_ ?_ _ | refine below_thru ?_ (by assumption) ?_ | omega | (simp; done) | (simp; omega))⟩

theorem checkTags_walk {w : World} (r : Int) (_ : I64 r) (key : Int) (_ : I64 key) (tg sd : Bool) (way : Int) (_ : I64 way) (A : Option Addr) (n c : Nat) (zs : List Int) (hz : Row .i64 w w.heap.size A n zs) (_ : ∀ z ∈ zs, (Lit.int .i64 z).wf = true) (hcap : n ≤ c) (hmax : c ≤ maxLen) (tag : Int) (_ : I64 tag) :
    Calls Try.prog 11 #[.agg #[.int .i64 r, .int .i64 key, .bool tg, .bool sd], .int .i64 way, .slice A n c, .int .i64 tag] w fun e w' => e = .returned (.bool true) ∧ Below w.heap.size w w' := by
  cases tg
  · exact checkTags_a r key sd way A n c zs hz hcap hmax tag
  · by_cases hw : way = 4
    · subst hw; exact checkTags_b r key sd A n c zs hz hcap hmax tag
    · cases hu : unlike zs tag with
      | none => exact checkTags_c r key sd way A n c zs hz hcap hmax tag (by simp [hw]) (Lib.hid (unlike_no hu)) (by simp [tagsF, hw, hu]) (by simp [tagsK, hw, hu])
      | some k =>
        obtain ⟨h1, h2, h3⟩ := unlike_some hu
        have h4 := unlike_take h3 (by omega)
        exact checkTags_d r key sd way A n c zs hz hcap hmax tag k (by simp [hw]) (by rw [← hz.1]; exact h1) (by simpa using h2) (by simp [tagsF, hw, hu]) (by simp [tagsK, hw, hu]) (by simp [tagsF, hw, h4]) (by simp [tagsK, hw, h4])
end Go.Proofs.Ytokpodmefnmmcaa
