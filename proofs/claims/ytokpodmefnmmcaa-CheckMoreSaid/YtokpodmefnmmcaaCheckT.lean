/- check.Tags and the document's GTags: what they answer. -/
import Derived.Test.YtokpodmefnmmcaaRow
namespace Go.Proofs.Ytokpodmefnmmcaa
open Go.RowKit

/-- The first place from k on where it is not 'tag'. -/
def unlike (zs : List Int) (tag : Int) : Option Nat := zs.findIdx? (fun z => z != tag)
def tagsF (tg : Bool) (way : Int) (zs : List Int) (tag : Int) : Int := if tg = false ∨ way = 4 then 0 else if (unlike zs tag).isSome then 4 else 0
def tagsK (tg : Bool) (way : Int) (zs : List Int) (tag : Int) : Int := if tg = false ∨ way = 4 then 0 else ((unlike zs tag).getD 0 : Nat)
/-- All of the first k are 'tag'. -/
def AllTag (zs : List Int) (tag : Int) (k : Nat) : Prop := ∀ i, i < k → zs.getD i 0 = tag

theorem getD_get {zs : List Int} {i : Nat} (h : i < zs.length) : zs.getD i 0 = zs[i] := by simp [List.getD, List.getElem?_eq_getElem h]
theorem unlike_at {zs : List Int} {tag : Int} {k : Nat} (h : AllTag zs tag k) (hk : k < zs.length) (hn : zs.getD k 0 ≠ tag) : unlike zs tag = some k := by
  unfold unlike
  rw [List.findIdx?_eq_some_iff_getElem]
  refine ⟨hk, ?_, fun j hj => ?_⟩
  · rw [getD_get hk] at hn; simpa using hn
  · have := h j hj; rw [getD_get (by omega)] at this; simp [this]
theorem unlike_none {zs : List Int} {tag : Int} (h : AllTag zs tag zs.length) : unlike zs tag = none := by
  unfold unlike
  rw [List.findIdx?_eq_none_iff]
  intro x hx
  obtain ⟨i, hi, rfl⟩ := List.getElem_of_mem hx
  have := h i hi
  rw [getD_get hi] at this
  simp [this]
theorem AllTag.next {zs : List Int} {tag : Int} {k : Nat} (h : AllTag zs tag k) (hn : zs.getD k 0 = tag) : AllTag zs tag (k + 1) := by
  intro i hi
  rcases Nat.lt_or_ge i k with hlt | hge
  · exact h i hlt
  · rw [show i = k by omega]; exact hn

set_option maxHeartbeats 1000000 in
theorem tags_any (r key : Int) (tg sd : Bool) (way : Int) (A : Option Addr) (n c : Nat) (zs : List Int) (tag : Int) (w : World) (B : Nat) (hz : Row .i64 w B A n zs) (hBw : B ≤ w.heap.size) :
    Calls Try.prog 27 #[.agg #[.int .i64 r, .int .i64 key, .bool tg, .bool sd], .int .i64 way, .slice A n c, .int .i64 tag] w fun e w' => e = .returned (.tuple #[.int .i64 (tagsF tg way zs tag), .int .i64 (tagsK tg way zs tag)]) ∧ Below w.heap.size w w' := by
  have hm := hz.2.1
  have hl := hz.1
  unfold maxLen at hm
  by_cases hw : way = 4
  · subst hw
    cases tg
    all_goals
      have HL := Lib.hid hl
      clear hl
      go_enter Try.func27, Try.ntmps27
      go_wp2
      all_goals go_ret2
      all_goals exact ⟨ret_ii (by simp [tagsF]) (by simp [tagsK]), by go_grown⟩
  · have hw4 : (way == 4) = false := by simp [hw]
    have hw5 : (way != 4) = true := by simp [hw]
    have HL := Lib.hid hl
    clear hl
    cases tg
    · go_enter Try.func27, Try.ntmps27
      go_wp2
      all_goals go_ret2
      all_goals exact ⟨ret_ii (by simp [tagsF]) (by simp [tagsK]), by go_grown⟩
    · have HZ := Lib.hid hz
      clear hz
      go_enter Try.func27, Try.ntmps27
      go_wp2
      go_loop [21] (fun i => ∃ k : Nat, k ≤ n ∧ i = .int .i64 k ∧ AllTag zs tag k) (fun i => n - (intOf i).toNat)
      case atStart => exact ⟨0, by omega, rfl, fun i hi => by omega⟩
      case round =>
        obtain ⟨k, hk, rfl, hall⟩ := hrel
        have HA := Lib.hid hall
        clear hall
        by_cases hlt : k < n
        · obtain ⟨b, off, rfl, hB', hc⟩ := HZ.out.at_ hlt
          have hB : b < w.heap.size := by omega
          have HLT := Lib.hid (show k < zs.length by rw [HL.out]; exact hlt)
          by_cases ht : zs.getD k 0 = tag
          · have ht' : (zs[k]?.getD 0 != tag) = false := by simpa using ht
            have HT := Lib.hid (HA.out.next ht)
            clear ht HA
            go_wp2
            go_round
            case rel => exact ⟨k + 1, by omega, by go_num, HT.out⟩
            case measure => simp [intOf]; omega
          · have ht' : (zs[k]?.getD 0 != tag) = true := by simpa using ht
            have HT := Lib.hid (unlike_at HA.out HLT.out ht)
            have hw' := hw
            clear ht HA hw
            go_wp2
            go_ret2
            exact ⟨ret_ii (by simp [tagsF, hw', HT.out]) (by simp [tagsK, hw', HT.out]), by go_grown⟩
        · have hkn : k = zs.length := by rw [HL.out]; omega
          have HT := Lib.hid (unlike_none (hkn ▸ HA.out))
          have hw' := hw
          clear hkn HA hw
          go_wp2
          go_ret2
          exact ⟨ret_ii (by simp [tagsF, hw', HT.out]) (by simp [tagsK, hw', HT.out]), by go_grown⟩

set_option maxHeartbeats 1000000 in
theorem gtags_any (r key : Int) (tg sd : Bool) (way : Int) (A : Option Addr) (n c : Nat) (zs : List Int) (tag : Int) (w : World) (B : Nat) (hz : Row .i64 w B A n zs) (hBw : B ≤ w.heap.size) :
    Calls Try.prog 28 #[.agg #[.int .i64 r, .int .i64 key, .bool tg, .bool sd], .int .i64 way, .slice A n c, .int .i64 tag] w fun e w' => e = .returned (.tuple #[.int .i64 (tagsF tg way zs tag), .int .i64 (tagsK tg way zs tag)]) ∧ Below w.heap.size w w' := by
  have hm := hz.2.1
  have hl := hz.1
  unfold maxLen at hm
  by_cases hw : way = 4
  · subst hw
    cases tg
    all_goals
      have HL := Lib.hid hl
      clear hl
      go_enter Try.func28, Try.ntmps28
      go_wp2
      try (refine wp_loop_rounds 1 ?_; repeat any_goals (rw [rounds_succ]; go_wp2))
      all_goals go_ret2
      all_goals exact ⟨ret_ii (by simp [tagsF]) (by simp [tagsK]), by go_grown⟩
  · have hw4 : (way == 4) = false := by simp [hw]
    have hw5 : (way != 4) = true := by simp [hw]
    have HL := Lib.hid hl
    clear hl
    cases tg
    · go_enter Try.func28, Try.ntmps28
      go_wp2
      try (refine wp_loop_rounds 1 ?_; repeat any_goals (rw [rounds_succ]; go_wp2))
      all_goals go_ret2
      all_goals exact ⟨ret_ii (by simp [tagsF]) (by simp [tagsK]), by go_grown⟩
    · have HZ := Lib.hid hz
      clear hz
      go_enter Try.func28, Try.ntmps28
      go_wp2
      go_loop [10] (fun i => ∃ k : Nat, k ≤ n ∧ i = .int .i64 k ∧ AllTag zs tag k) (fun i => n - (intOf i).toNat)
      case atStart => exact ⟨0, by omega, rfl, fun i hi => by omega⟩
      case round =>
        obtain ⟨k, hk, rfl, hall⟩ := hrel
        have HA := Lib.hid hall
        clear hall
        by_cases hlt : k < n
        · obtain ⟨b, off, rfl, hB', hc⟩ := HZ.out.at_ hlt
          have hB : b < w.heap.size := by omega
          have HLT := Lib.hid (show k < zs.length by rw [HL.out]; exact hlt)
          by_cases ht : zs.getD k 0 = tag
          · have ht' : (zs[k]?.getD 0 != tag) = false := by simpa using ht
            have HT := Lib.hid (HA.out.next ht)
            clear ht HA
            go_wp2
            go_round
            case rel => exact ⟨k + 1, by omega, by go_num, HT.out⟩
            case measure => simp [intOf]; omega
          · have ht' : (zs[k]?.getD 0 != tag) = true := by simpa using ht
            have HT := Lib.hid (unlike_at HA.out HLT.out ht)
            have hw' := hw
            clear ht HA hw
            go_wp2
            go_ret2
            exact ⟨ret_ii (by simp [tagsF, hw', HT.out]) (by simp [tagsK, hw', HT.out]), by go_grown⟩
        · have hkn : k = zs.length := by rw [HL.out]; omega
          have HT := Lib.hid (unlike_none (hkn ▸ HA.out))
          have hw' := hw
          clear hkn HA hw
          go_wp2
          go_ret2
          exact ⟨ret_ii (by simp [tagsF, hw', HT.out]) (by simp [tagsK, hw', HT.out]), by go_grown⟩

end Go.Proofs.Ytokpodmefnmmcaa
