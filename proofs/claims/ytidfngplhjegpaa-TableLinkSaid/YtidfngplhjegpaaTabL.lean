/- table.Leaf, Get; the document's ELeaf, EGet: what they answer. -/
import Derived.Test.YtidfngplhjegpaaTabA
namespace Go.Proofs.Ytidfngplhjegpaa
open Go.RowKit
set_option linter.unusedVariables false

theorem unN_rng (v : Int) : 0 ≤ unN v ∧ unN v < 64 := by
  unfold unN
  split
  · rename_i h
    unfold packE at h
    split at h
    · cases h
    · split at h
      · cases h
      · omega
  · omega
theorem unK_rng (v : Int) : 0 ≤ unK v ∧ unK v ≤ 2 := by
  unfold unK
  split
  · rename_i h
    unfold packE at h
    split at h
    · cases h
    · omega
  · omega
theorem unE_01 (v : Int) : unE v = 0 ∨ unE v = 1 := by unfold unE; split <;> simp
theorem atN_rng (zs : List Int) (f k : Int) : 0 ≤ atN zs f k ∧ atN zs f k < 64 := by
  unfold atN; split
  · omega
  · exact unN_rng _
def pageBad (page : Int) : Prop := page < 0 ∨ 64 ≤ page
def leafE (zs : List Int) (root page : Int) : Int :=
  if page < 0 ∨ 64 ≤ page then 2 else if atE zs root (page / 8) ≠ 0 then atE zs root (page / 8) else if atK zs root (page / 8) = 0 then 3 else if atK zs root (page / 8) ≠ 1 then 1 else 0
def leafV (zs : List Int) (root page : Int) : Int := if leafE zs root page = 0 then atN zs root (page / 8) else 0
theorem leafV_rng (zs : List Int) (root page : Int) : 0 ≤ leafV zs root page ∧ leafV zs root page < 64 := by
  unfold leafV; split
  · exact atN_rng _ _ _
  · omega
def getE (zs : List Int) (root page : Int) : Int := if leafE zs root page = 3 then 0 else if leafE zs root page ≠ 0 then leafE zs root page else atE zs (leafV zs root page) (page % 8)
def getK (zs : List Int) (root page : Int) : Int := if leafE zs root page = 0 then atK zs (leafV zs root page) (page % 8) else 0
def getN (zs : List Int) (root page : Int) : Int := if leafE zs root page = 0 then atN zs (leafV zs root page) (page % 8) else 0

/-- What Leaf answers, by cases. -/
theorem leaf_cases (zs : List Int) (root page : Int) :
    (leafE zs root page = 2 ∧ leafV zs root page = 0 ∧ (page < 0 ∨ 64 ≤ page)) ∨
    (0 ≤ page ∧ page < 64 ∧ ((atE zs root (page / 8) ≠ 0 ∧ leafE zs root page = atE zs root (page / 8) ∧ leafV zs root page = 0) ∨ (atE zs root (page / 8) = 0 ∧ atK zs root (page / 8) = 0 ∧ leafE zs root page = 3 ∧ leafV zs root page = 0) ∨
      (atE zs root (page / 8) = 0 ∧ atK zs root (page / 8) ≠ 0 ∧ atK zs root (page / 8) ≠ 1 ∧ leafE zs root page = 1 ∧ leafV zs root page = 0) ∨ (atE zs root (page / 8) = 0 ∧ atK zs root (page / 8) = 1 ∧ leafE zs root page = 0 ∧ leafV zs root page = atN zs root (page / 8)))) := by
  by_cases h : page < 0 ∨ 64 ≤ page
  · have : leafE zs root page = 2 := by unfold leafE; rw [if_pos h]
    exact .inl ⟨this, by unfold leafV; rw [if_neg (by omega)], h⟩
  · refine .inr ⟨by omega, by omega, ?_⟩
    by_cases h1 : atE zs root (page / 8) ≠ 0
    · have : leafE zs root page = atE zs root (page / 8) := by unfold leafE; rw [if_neg h, if_pos h1]
      exact .inl ⟨h1, this, by unfold leafV; rw [if_neg (by omega)]⟩
    · by_cases h2 : atK zs root (page / 8) = 0
      · have : leafE zs root page = 3 := by unfold leafE; rw [if_neg h, if_neg h1, if_pos h2]
        exact .inr (.inl ⟨by omega, h2, this, by unfold leafV; rw [if_neg (by omega)]⟩)
      · by_cases h3 : atK zs root (page / 8) = 1
        · have : leafE zs root page = 0 := by unfold leafE; rw [if_neg h, if_neg h1, if_neg h2, if_neg (by omega)]
          exact .inr (.inr (.inr ⟨by omega, h3, this, by unfold leafV; rw [if_pos this]⟩))
        · have : leafE zs root page = 1 := by unfold leafE; rw [if_neg h, if_neg h1, if_neg h2, if_pos h3]
          exact .inr (.inr (.inl ⟨by omega, h2, h3, this, by unfold leafV; rw [if_neg (by omega)]⟩))

set_option maxHeartbeats 4000000 in
theorem leaf_any (A : Option Addr) (len c : Nat) (zs : List Int) (root page : Int) (w : World) (B : Nat) (hz : Row .u8 w B A len zs) (hB : B ≤ w.heap.size) (hb : Bytes zs) (hn : len ≤ 140737488355328) :
    Calls Try.prog 21 #[.slice A len c, .int .i64 root, .int .i64 page] w fun e w' => e = .returned (.tuple #[.int .i64 (leafV zs root page), .int .i64 (leafE zs root page)]) ∧ Below w.heap.size w w' := by
  have HZ := Lib.hid hz
  have HB := Lib.hid hb
  have hbx : Below B w w := Below.refl _ _
  clear hz hb
  rcases leaf_cases zs root page with ⟨e1, e2, h⟩ | ⟨h0, h1, hc⟩
  · rw [e1, e2]
    clear e1 e2
    rcases h with h | h
    all_goals
      go_enter Try.func21, Try.ntmps21
      go_wp2
      all_goals go_ret2
      all_goals exact ⟨rfl, Below.refl _ _⟩
  · have hcon := fun W hW => tat_any A len c zs root (page / 8) W B (HZ.out.below hW) (Nat.le_trans hB hW.size) HB.out hn
    have HC := Lib.hid hcon
    clear hcon
    generalize atE zs root (page / 8) = E at *
    generalize atK zs root (page / 8) = K at *
    generalize atN zs root (page / 8) = N at *
    rcases hc with ⟨c1, e1, e2⟩ | ⟨rfl, rfl, e1, e2⟩ | ⟨rfl, c1, c2, e1, e2⟩ | ⟨rfl, rfl, e1, e2⟩
    · rw [e1, e2]
      have b1 : (E != 0) = true := by rw [bne_iff_ne]; exact c1
      clear e1 e2 c1
      go_enter Try.func21, Try.ntmps21
      go_wp2_with (go_at_call 37; refine (HC.out _ hbx).mono ?_; rintro e w1 ⟨rfl, hb1⟩; obtain ⟨hc1, hf1⟩ := bcell hb1)
      go_ret2
      exact ⟨rfl, hb1.alloc hb1.size _⟩
    · rw [e1, e2]
      clear e1 e2
      go_enter Try.func21, Try.ntmps21
      go_wp2_with (go_at_call 37; refine (HC.out _ hbx).mono ?_; rintro e w1 ⟨rfl, hb1⟩; obtain ⟨hc1, hf1⟩ := bcell hb1)
      go_ret2
      exact ⟨rfl, (hb1.alloc hb1.size _)⟩
    · rw [e1, e2]
      have b1 : (K == 0) = false := by simp [c1]
      have b2 : (K != 1) = true := by simp [c2]
      clear e1 e2 c1 c2
      go_enter Try.func21, Try.ntmps21
      go_wp2_with (go_at_call 37; refine (HC.out _ hbx).mono ?_; rintro e w1 ⟨rfl, hb1⟩; obtain ⟨hc1, hf1⟩ := bcell hb1)
      go_ret2
      exact ⟨rfl, (hb1.alloc hb1.size _)⟩
    · rw [e1, e2]
      clear e1 e2
      go_enter Try.func21, Try.ntmps21
      go_wp2_with (go_at_call 37; refine (HC.out _ hbx).mono ?_; rintro e w1 ⟨rfl, hb1⟩; obtain ⟨hc1, hf1⟩ := bcell hb1)
      go_ret2
      exact ⟨rfl, (hb1.alloc hb1.size _)⟩

set_option maxHeartbeats 4000000 in
theorem eleaf_any (A : Option Addr) (len c : Nat) (zs : List Int) (root page : Int) (w : World) (B : Nat) (hz : Row .u8 w B A len zs) (hB : B ≤ w.heap.size) (hb : Bytes zs) (hn : len ≤ 140737488355328) (ri : I64 root) :
    Calls Try.prog 22 #[.slice A len c, .int .i64 root, .int .i64 page] w fun e w' => e = .returned (.tuple #[.int .i64 (leafV zs root page), .int .i64 (leafE zs root page)]) ∧ Below w.heap.size w w' := by
  have HLN := Lib.hid hz.1
  have HZ := Lib.hid hz
  have HB := Lib.hid hb
  clear hz hb
  rcases leaf_cases zs root page with ⟨e1, e2, h⟩ | ⟨h0, h1, hc⟩
  · rw [e1, e2]
    clear e1 e2
    rcases h with h | h
    all_goals
      go_enter Try.func22, Try.ntmps22
      go_wp2
      all_goals go_ret2
      all_goals exact ⟨rfl, Below.refl _ _⟩
  · have HEN := Lib.hid (fun W => enumber_any A len c root (page / 8) W hn ri (by unfold I64; omega) (by omega) (by omega))
    by_cases hp : plcOk zs.length root (page / 8)
    · obtain ⟨a1, a2, a3, a4⟩ := at_yes hp
      have hpl := plc_yes hp
      rw [HLN.out] at hpl
      have hp0 : 0 ≤ 64 * root + 4 * (page / 8) := by unfold plcOk at hp; omega
      have hp1 : 64 * root + 4 * (page / 8) ≤ 9223372036854775807 := by unfold plcOk at hp; omega
      rw [hpl] at HEN
      have HG := Lib.hid (fun W (hW : Below B w W) => aget_any A len c zs (64 * root + 4 * (page / 8)) 4 W B (HZ.out.below hW) HB.out hn hp1)
      rw [a1] at HG
      rw [a2, a3, a4] at hc
      have hkr := unK_rng (rgetV zs (64 * root + 4 * (page / 8)) 4)
      have he1 := unE_01 (rgetV zs (64 * root + 4 * (page / 8)) 4)
      clear a1 a2 a3 a4 hpl hp
      generalize 64 * root + 4 * (page / 8) = q at *
      generalize rgetV zs q 4 = v at *
      have HU := Lib.hid (fun W => dunpack_any v W)
      generalize unE v = E at *
      generalize unK v = K at *
      generalize unN v = N at *
      have hbx : Below B w w := Below.refl _ _
      rcases hc with ⟨c1, e1, e2⟩ | ⟨rfl, rfl, e1, e2⟩ | ⟨rfl, c1, c2, e1, e2⟩ | ⟨rfl, rfl, e1, e2⟩
      · rw [e1, e2]
        obtain rfl : E = 1 := by omega
        clear e1 e2 c1 he1
        go_enter Try.func22, Try.ntmps22
        go_wp2_with (first
          | (go_at_call 38; refine (HEN.out _).mono ?_; rintro e w1 ⟨rfl, hw⟩; rw [hw]; clear hw)
          | (go_at_call 17; refine (HG.out _ hbx).mono ?_; rintro e w1 ⟨rfl, hw⟩; rw [hw]; clear hw)
          | (go_at_call 39; refine (HU.out _).mono ?_; rintro e w1 ⟨rfl, hb1⟩; obtain ⟨hc1, hf1⟩ := bcell hb1))
        go_ret2
        exact ⟨rfl, hb1.alloc hb1.size _⟩
      · rw [e1, e2]
        clear e1 e2 he1 hkr
        go_enter Try.func22, Try.ntmps22
        go_wp2_with (first
          | (go_at_call 38; refine (HEN.out _).mono ?_; rintro e w1 ⟨rfl, hw⟩; rw [hw]; clear hw)
          | (go_at_call 17; refine (HG.out _ hbx).mono ?_; rintro e w1 ⟨rfl, hw⟩; rw [hw]; clear hw)
          | (go_at_call 39; refine (HU.out _).mono ?_; rintro e w1 ⟨rfl, hb1⟩; obtain ⟨hc1, hf1⟩ := bcell hb1))
        go_ret2
        exact ⟨rfl, hb1.alloc hb1.size _⟩
      · rw [e1, e2]
        obtain rfl : K = 2 := by omega
        clear e1 e2 c1 c2 he1 hkr
        go_enter Try.func22, Try.ntmps22
        go_wp2_with (first
          | (go_at_call 38; refine (HEN.out _).mono ?_; rintro e w1 ⟨rfl, hw⟩; rw [hw]; clear hw)
          | (go_at_call 17; refine (HG.out _ hbx).mono ?_; rintro e w1 ⟨rfl, hw⟩; rw [hw]; clear hw)
          | (go_at_call 39; refine (HU.out _).mono ?_; rintro e w1 ⟨rfl, hb1⟩; obtain ⟨hc1, hf1⟩ := bcell hb1))
        go_ret2
        exact ⟨rfl, hb1.alloc hb1.size _⟩
      · rw [e1, e2]
        clear e1 e2 he1 hkr
        go_enter Try.func22, Try.ntmps22
        go_wp2_with (first
          | (go_at_call 38; refine (HEN.out _).mono ?_; rintro e w1 ⟨rfl, hw⟩; rw [hw]; clear hw)
          | (go_at_call 17; refine (HG.out _ hbx).mono ?_; rintro e w1 ⟨rfl, hw⟩; rw [hw]; clear hw)
          | (go_at_call 39; refine (HU.out _).mono ?_; rintro e w1 ⟨rfl, hb1⟩; obtain ⟨hc1, hf1⟩ := bcell hb1))
        go_ret2
        exact ⟨rfl, hb1.alloc hb1.size _⟩
    · obtain ⟨a2, a3, a4⟩ := at_no hp
      have hpl := plc_no hp
      rw [HLN.out] at hpl
      rw [hpl] at HEN
      rw [a2] at hc
      have e1 : leafE zs root page = 2 := by omega
      have e2 : leafV zs root page = 0 := by omega
      rw [e1, e2]
      clear a2 a3 a4 hpl hp hc e1 e2
      go_enter Try.func22, Try.ntmps22
      go_wp2_with (go_at_call 38; refine (HEN.out _).mono ?_; rintro e w1 ⟨rfl, hw⟩; rw [hw]; clear hw)
      go_ret2
      exact ⟨rfl, Below.refl _ _⟩

theorem leafE_rng (zs : List Int) (root page : Int) : leafE zs root page = 0 ∨ leafE zs root page = 1 ∨ leafE zs root page = 2 ∨ leafE zs root page = 3 := by
  have h9 : atE zs root (page / 8) = 2 ∨ atE zs root (page / 8) = 0 ∨ atE zs root (page / 8) = 1 := by
    unfold atE; split
    · exact .inl rfl
    · exact .inr (unE_01 _)
  rcases leaf_cases zs root page with ⟨e, _⟩ | ⟨_, _, ⟨_, e, _⟩ | ⟨_, _, e, _⟩ | ⟨_, _, _, e, _⟩ | ⟨_, _, e, _⟩⟩ <;> omega
end Go.Proofs.Ytidfngplhjegpaa
