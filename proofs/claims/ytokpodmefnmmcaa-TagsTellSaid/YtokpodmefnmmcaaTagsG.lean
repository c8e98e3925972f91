/- tags.Get, Write, Set, New and the document's CGet, CSet: what they answer. -/
import Derived.Test.YtokpodmefnmmcaaOwn
namespace Go.Proofs.Ytokpodmefnmmcaa
open Go.RowKit

/-- All are bytes. -/
def Bytes (zs : List Int) : Prop := ∀ i, 0 ≤ zs.getD i 0 ∧ zs.getD i 0 < 256
def tgetE (zs : List Int) (g : Int) : Int := if g < 0 ∨ 2 * (zs.length : Int) ≤ g then 2 else 0
def tgetV (zs : List Int) (g : Int) : Int := if g < 0 ∨ 2 * (zs.length : Int) ≤ g then 0 else if g % 2 = 0 then zs.getD (g / 2).toNat 0 % 16 else zs.getD (g / 2).toNat 0 / 16

theorem and15_u8 {x : Int} (h0 : 0 ≤ x) (h1 : x < 256) : bits .and .u8 x 15 = x % 16 := by
  rw [u8_and x 15 h0 h1 (by decide) (by decide)]
  show ((x.toNat &&& 15 : Nat) : Int) = _
  rw [nat_mask4]; omega
theorem w64 {x : Int} (h0 : 0 ≤ x) (h1 : x < 256) : wrap64 x = x := by unfold wrap64; omega
theorem tlo {zs : List Int} {n k : Nat} (hl : zs.length = n) (hk : k < n) (b0 : 0 ≤ zs.getD k 0) (b1 : zs.getD k 0 < 256) : wrap64 (bits .and .u8 (zs[k]?.getD 0) 15) = tgetV zs (2 * (k : Int)) := by
  change wrap64 (bits .and .u8 (zs.getD k 0) 15) = _
  rw [and15_u8 b0 b1, w64 (by omega) (by omega)]
  unfold tgetV
  rw [if_neg (by omega), if_pos (by omega), show (2 * (k : Int) / 2).toNat = k by omega]
theorem thi {zs : List Int} {n k : Nat} (hl : zs.length = n) (hk : k < n) (b0 : 0 ≤ zs.getD k 0) (b1 : zs.getD k 0 < 256) : wrap64 (bits .and .u8 (zs[k]?.getD 0 / 16) 15) = tgetV zs (2 * (k : Int) + 1) := by
  change wrap64 (bits .and .u8 (zs.getD k 0 / 16) 15) = _
  rw [and15_u8 (by omega) (by omega), w64 (by omega) (by omega)]
  unfold tgetV
  rw [if_neg (by omega), if_neg (by omega), show ((2 * (k : Int) + 1) / 2).toNat = k by omega]
  omega

set_option maxHeartbeats 1000000 in
theorem tget_any (A : Option Addr) (n c : Nat) (zs : List Int) (g : Int) (w : World) (B : Nat) (hz : Row .u8 w B A n zs) (hb : Bytes zs) (_ : B ≤ w.heap.size) (hn : n ≤ 140737488355328) :
    Calls Try.prog 34 #[.slice A n c, .int .i64 g] w fun e w' => e = .returned (.tuple #[.int .i64 (tgetV zs g), .int .i64 (tgetE zs g)]) ∧ w' = w := by
  have hl := hz.1
  by_cases h : g < 0 ∨ 2 * (n : Int) ≤ g
  · have HL := Lib.hid hl; have HZ := Lib.hid hz
    clear hl hz
    rcases h with h | h
    all_goals
      go_enter Try.func34, Try.ntmps34
      go_wp2
      go_ret2
      exact ⟨ret_ii (by unfold tgetV; rw [if_pos (by rw [HL.out]; omega)]) (by unfold tgetE; rw [if_pos (by rw [HL.out]; omega)]), rfl⟩
  · obtain ⟨k, hk⟩ : ∃ k : Nat, g = 2 * (k : Int) ∨ g = 2 * (k : Int) + 1 := ⟨(g / 2).toNat, by omega⟩
    have hkn : k < n := by omega
    obtain ⟨b, off, rfl, hB', hc⟩ := hz.at_ hkn
    have hbk := hb k
    obtain ⟨b0, b1⟩ := hbk
    have HL := Lib.hid hl; have HZ := Lib.hid hz; have HB := Lib.hid hb
    clear hl hz hb
    rcases hk with rfl | rfl
    · have e1 : (2 * (k : Int)) / 2 = k := by omega
      have e2 : (2 * (k : Int)) % 2 = 0 := by omega
      go_enter Try.func34, Try.ntmps34
      go_wp2
      go_ret2
      exact ⟨ret_ii (tlo HL.out hkn b0 b1) (by unfold tgetE; rw [if_neg (by rw [HL.out]; omega)]), rfl⟩
    · have e1 : (2 * (k : Int) + 1) / 2 = k := by omega
      have e2 : (2 * (k : Int) + 1) % 2 = 1 := by omega
      go_enter Try.func34, Try.ntmps34
      go_wp2
      go_ret2
      exact ⟨ret_ii (thi HL.out hkn b0 b1) (by unfold tgetE; rw [if_neg (by rw [HL.out]; omega)]), rfl⟩

theorem clo {zs : List Int} {n k : Nat} (hl : zs.length = n) (hk : k < n) (_ : 0 ≤ zs.getD k 0) (_ : zs.getD k 0 < 256) : zs[k]?.getD 0 % 16 = tgetV zs (2 * (k : Int)) := by
  change zs.getD k 0 % 16 = _
  unfold tgetV
  rw [if_neg (by omega), if_pos (by omega), show (2 * (k : Int) / 2).toNat = k by omega]
theorem chi {zs : List Int} {n k : Nat} (hl : zs.length = n) (hk : k < n) (_ : 0 ≤ zs.getD k 0) (_ : zs.getD k 0 < 256) : zs[k]?.getD 0 / 16 = tgetV zs (2 * (k : Int) + 1) := by
  change zs.getD k 0 / 16 = _
  unfold tgetV
  rw [if_neg (by omega), if_neg (by omega), show ((2 * (k : Int) + 1) / 2).toNat = k by omega]
set_option maxHeartbeats 1000000 in
theorem cget_any (A : Option Addr) (n c : Nat) (zs : List Int) (g : Int) (w : World) (B : Nat) (hz : Row .u8 w B A n zs) (hb : Bytes zs) (_ : B ≤ w.heap.size) (hn : n ≤ 140737488355328) :
    Calls Try.prog 35 #[.slice A n c, .int .i64 g] w fun e w' => e = .returned (.tuple #[.int .i64 (tgetV zs g), .int .i64 (tgetE zs g)]) ∧ w' = w := by
  have hl := hz.1
  have HL := Lib.hid hl; have HZ := Lib.hid hz; have HB := Lib.hid hb
  clear hl hz hb
  go_enter Try.func35, Try.ntmps35
  go_wp2
  go_loop [10] (fun i => ∃ k : Nat, k ≤ n ∧ i = .int .i64 k ∧ (g < 0 ∨ 2 * (k : Int) ≤ g)) (fun i => n - (intOf i).toNat)
  case atStart => exact ⟨0, by omega, rfl, by omega⟩
  case round =>
    obtain ⟨k, hk, rfl, hg⟩ := hrel
    by_cases hlt : k < n
    · obtain ⟨b, off, rfl, hB', hc⟩ := HZ.out.at_ hlt
      obtain ⟨b0, b1⟩ := HB.out k
      have b2 : 0 ≤ zs[k]?.getD 0 := b0
      have b3 : zs[k]?.getD 0 < 256 := b1
      by_cases e0 : g = 2 * (k : Int)
      · subst e0
        clear hg
        go_wp2
        go_ret2
        exact ⟨ret_ii (clo HL.out hlt b0 b1) (by unfold tgetE; rw [if_neg (by rw [HL.out]; omega)]), rfl⟩
      · have t0 : (g == 2 * (k : Int)) = false := by simp [e0]
        by_cases e1 : g = 2 * (k : Int) + 1
        · subst e1
          clear hg
          go_wp2
          go_ret2
          exact ⟨ret_ii (chi HL.out hlt b0 b1) (by unfold tgetE; rw [if_neg (by rw [HL.out]; omega)]), rfl⟩
        · have t1 : (g == 2 * (k : Int) + 1) = false := by simp [e1]
          have H := Lib.hid (show g < 0 ∨ 2 * ((k + 1 : Nat) : Int) ≤ g by omega)
          clear hg e0 e1
          go_wp2
          go_round
          case rel => exact ⟨k + 1, by omega, by go_num, H.out⟩
          case measure => simp [intOf]; omega
    · go_wp2
      go_ret2
      exact ⟨ret_ii (by unfold tgetV; rw [if_pos (by rw [HL.out]; omega)]) (by unfold tgetE; rw [if_pos (by rw [HL.out]; omega)]), rfl⟩
end Go.Proofs.Ytokpodmefnmmcaa
