/- Several texts in one: Open, Row, CheckT. -/
import Derived.Test.YtglnnplijienbaaM3
import Derived.ProofKit
import Derived.OpenShut
import Derived.ShutString
import Derived.ChangeOld
import Derived.Lib.SmallJoins
/- Openers: what an argument that came in is, as plain data. -/
namespace Go.Proofs.Ytglnnplijienbaa
open Go.ChangeShapes Go.WideShapes Go.ChangeAt Go.RowKit Go.Joins

/-- An int of 64 bits. -/
def I64 (x : Int) : Prop := -9223372036854775808 ≤ x ∧ x ≤ 9223372036854775807
theorem i64_of_wf {x : Int} (h : (Lit.int .i64 x).wf = true) : I64 x := by
  simp [Lit.wf, IntKind.min, IntKind.max, IntKind.signed, IntKind.bits] at h
  exact ⟨by omega, by omega⟩
theorem one_of {a b : Value} (h : [a] = [b]) : a = b := by injection h
end Go.Proofs.Ytglnnplijienbaa

/- A slice of integers or bools that came in, as a list. -/
namespace Go.Proofs.Ytglnnplijienbaa
open Go.ChangeShapes Go.WideShapes Go.ChangeAt Go.RowKit Go.Joins

/-- A slice that reads as the numbers zs: 'zs' has just its elements. -/
def Row (k : IntKind) (w : World) (B : Nat) (A : Option Addr) (n : Nat) (zs : List Int) : Prop :=
  zs.length = n ∧ n ≤ maxLen ∧ (0 < n → ∃ b off, A = some ⟨b, off, none⟩ ∧ b < B ∧ ∀ i, i < n → w.cell? ⟨b, off + i, none⟩ = some (.int k (zs.getD i 0)))
theorem Row.below {k : IntKind} {w w' : World} {B : Nat} {A : Option Addr} {n : Nat} {zs : List Int} (h : Row k w B A n zs) (hb : Below B w w') : Row k w' B A n zs :=
  ⟨h.1, h.2.1, fun hn => by
    obtain ⟨b, off, e, hB, hc⟩ := h.2.2 hn
    exact ⟨b, off, e, hB, fun i hi => (hb.cell (p := ⟨b, off + i, none⟩) hB).trans (hc i hi)⟩⟩
theorem Row.at_ {k : IntKind} {w : World} {B : Nat} {A : Option Addr} {n i : Nat} {zs : List Int} (h : Row k w B A n zs) (hi : i < n) :
    ∃ b off, A = some ⟨b, off, none⟩ ∧ b < B ∧ w.cell? ⟨b, off + i, none⟩ = some (.int k (zs.getD i 0)) := by
  obtain ⟨b, off, e, hB, hc⟩ := h.2.2 (by omega)
  exact ⟨b, off, e, hB, hc i hi⟩


theorem lt_of_cell {w : World} {b o : Nat} {v : Value} (h : w.cell? ⟨b, o, none⟩ = some v) : b < w.heap.size := by
  rcases Nat.lt_or_ge b w.heap.size with hlt | hge
  · exact hlt
  · unfold World.cell? at h
    rw [Array.getElem?_eq_none hge] at h
    simp at h

section
variable {H : Type} {enc : TypeId × Value → H} {P : Program} {w : World} {base : Nat} {held : Bool}
theorem row_of_int {t e : TypeId} {k : IntKind} {A : Option Addr} {n c : Nat} {d : DataW H} {p : List MemPlace} (ht : P.underlying t = some (.slice e)) (he : P.underlying e = some (.int k)) (hC : P.cellsOf e = 1)
    (h : DataW.Trod enc P w base (fun _ => true) held t (.slice A n c) d p) : ∃ zs, Row k w w.heap.size A n zs ∧ (∀ z ∈ zs, (Lit.int k z).wf = true) ∧ n ≤ c ∧ c ≤ maxLen := by
  obtain ⟨fuel, hf⟩ := h
  rcases open_ints ht he hC hf with ⟨hcs, _⟩ | ⟨x, l, c', zs, hcs, _, hl, hm, hz, _, hcell, hwz⟩
  · simp [Value.cells] at hcs
    obtain ⟨rfl, rfl, rfl⟩ := hcs
    exact ⟨[], ⟨rfl, by simp, fun h => absurd h (by omega)⟩, fun _ h => absurd h (by simp), by omega, by simp⟩
  · simp [Value.cells] at hcs
    obtain ⟨rfl, rfl, rfl⟩ := hcs
    simp at hz
    refine ⟨zs.take n, ⟨by simp; omega, by omega, fun hn => ?_⟩, fun z hzz => hwz z (List.mem_of_mem_take hzz), hl, hm⟩
    obtain ⟨b, off, spot⟩ := x
    have hc0 := hcell 0 (by omega)
    have hspot : spot = none := by simpa [Addr.add] using World.cell?_spot hc0
    subst hspot
    have hc0' : w.cell? ⟨b, off, none⟩ = some (.int k (zs.getD 0 0)) := by simpa [Addr.add] using hc0
    refine ⟨b, off, rfl, lt_of_cell hc0', fun i hi => ?_⟩
    have hci := hcell i (by omega)
    have e1 : (Addr.add ⟨b, off, none⟩ i) = ⟨b, off + i, none⟩ := by
      unfold Addr.add; split <;> simp_all
    rw [e1] at hci
    rw [hci]
    congr 2
    simp [List.getD, hi]
end
end Go.Proofs.Ytglnnplijienbaa

/- check.Tags and the document's GTags: what they answer. -/
namespace Go.Proofs.Ytglnnplijienbaa
open Go.RowKit

/-- The first place from k on where it is not 'tag'. -/
def unlike (zs : List Int) (tag : Int) : Option Nat := zs.findIdx? (fun z => z != tag)
def tagsF (tg : Bool) (way : Int) (zs : List Int) (tag : Int) : Int := if tg = false ∨ way = 4 then 0 else if (unlike zs tag).isSome then 4 else 0
def tagsK (tg : Bool) (way : Int) (zs : List Int) (tag : Int) : Int := if tg = false ∨ way = 4 then 0 else ((unlike zs tag).getD 0 : Nat)
/-- All of the first k are 'tag'. -/
def AllTag (zs : List Int) (tag : Int) (k : Nat) : Prop := ∀ i, i < k → zs.getD i 0 = tag

theorem getD_get {zs : List Int} {i : Nat} (h : i < zs.length) : zs.getD i 0 = zs[i] := by simp [List.getD, List.getElem?_eq_getElem h]
theorem unlike_at {zs : List Int} {tag : Int} {k : Nat} (h : AllTag zs tag k) (hk : k < zs.length) (hn : zs.getD k 0 ≠ tag) : unlike zs tag = some k := by
  unfold unlike
  rw [List.findIdx?_eq_some_iff_getElem]
  refine ⟨hk, ?_, fun j hj => ?_⟩
  · rw [getD_get hk] at hn; simpa using hn
  · have := h j hj; rw [getD_get (by omega)] at this; simp [this]
theorem unlike_none {zs : List Int} {tag : Int} (h : AllTag zs tag zs.length) : unlike zs tag = none := by
  unfold unlike
  rw [List.findIdx?_eq_none_iff]
  intro x hx
  obtain ⟨i, hi, rfl⟩ := List.getElem_of_mem hx
  have := h i hi
  rw [getD_get hi] at this
  simp [this]
theorem AllTag.next {zs : List Int} {tag : Int} {k : Nat} (h : AllTag zs tag k) (hn : zs.getD k 0 = tag) : AllTag zs tag (k + 1) := by
  intro i hi
  rcases Nat.lt_or_ge i k with hlt | hge
  · exact h i hlt
  · rw [show i = k by omega]; exact hn

set_option maxHeartbeats 1000000 in
theorem tags_any (r key : Int) (tg sd : Bool) (way : Int) (A : Option Addr) (n c : Nat) (zs : List Int) (tag : Int) (w : World) (B : Nat) (hz : Row .i64 w B A n zs) (hBw : B ≤ w.heap.size) :
    Calls Try.prog 72 #[.agg #[.int .i64 r, .int .i64 key, .bool tg, .bool sd], .int .i64 way, .slice A n c, .int .i64 tag] w fun e w' => e = .returned (.tuple #[.int .i64 (tagsF tg way zs tag), .int .i64 (tagsK tg way zs tag)]) ∧ Below w.heap.size w w' := by
  have hm := hz.2.1
  have hl := hz.1
  unfold maxLen at hm
  by_cases hw : way = 4
  · subst hw
    cases tg
    all_goals
      have HL := Lib.hid hl
      clear hl
      go_enter Try.func72, Try.ntmps72
      go_wp2
      all_goals go_ret2
      all_goals exact ⟨ret_ii (by simp [tagsF]) (by simp [tagsK]), by go_grown⟩
  · have hw4 : (way == 4) = false := by simp [hw]
    have hw5 : (way != 4) = true := by simp [hw]
    have HL := Lib.hid hl
    clear hl
    cases tg
    · go_enter Try.func72, Try.ntmps72
      go_wp2
      all_goals go_ret2
      all_goals exact ⟨ret_ii (by simp [tagsF]) (by simp [tagsK]), by go_grown⟩
    · have HZ := Lib.hid hz
      clear hz
      go_enter Try.func72, Try.ntmps72
      go_wp2
      go_loop [21] (fun i => ∃ k : Nat, k ≤ n ∧ i = .int .i64 k ∧ AllTag zs tag k) (fun i => n - (intOf i).toNat)
      case atStart => exact ⟨0, by omega, rfl, fun i hi => by omega⟩
      case round =>
        obtain ⟨k, hk, rfl, hall⟩ := hrel
        have HA := Lib.hid hall
        clear hall
        by_cases hlt : k < n
        · obtain ⟨b, off, rfl, hB', hc⟩ := HZ.out.at_ hlt
          have hB : b < w.heap.size := by omega
          have HLT := Lib.hid (show k < zs.length by rw [HL.out]; exact hlt)
          by_cases ht : zs.getD k 0 = tag
          · have ht' : (zs[k]?.getD 0 != tag) = false := by simpa using ht
            have HT := Lib.hid (HA.out.next ht)
            clear ht HA
            go_wp2
            go_round
            case rel => exact ⟨k + 1, by omega, by go_num, HT.out⟩
            case measure => simp [intOf]; omega
          · have ht' : (zs[k]?.getD 0 != tag) = true := by simpa using ht
            have HT := Lib.hid (unlike_at HA.out HLT.out ht)
            have hw' := hw
            clear ht HA hw
            go_wp2
            go_ret2
            exact ⟨ret_ii (by simp [tagsF, hw', HT.out]) (by simp [tagsK, hw', HT.out]), by go_grown⟩
        · have hkn : k = zs.length := by rw [HL.out]; omega
          have HT := Lib.hid (unlike_none (hkn ▸ HA.out))
          have hw' := hw
          clear hkn HA hw
          go_wp2
          go_ret2
          exact ⟨ret_ii (by simp [tagsF, hw', HT.out]) (by simp [tagsK, hw', HT.out]), by go_grown⟩

end Go.Proofs.Ytglnnplijienbaa
