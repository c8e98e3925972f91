/- Tables: what was put is there, and nothing else has changed. -/
import Derived.Test.YtidfngplhjegpaaTabN
namespace Go.Proofs.Ytidfngplhjegpaa
open Go.RowKit
set_option linter.unusedVariables false

theorem at_len {zs zs' : List Int} (hl : zs.length = zs'.length) {f k : Int} (h : plcOk zs.length f k → rgetV zs (64 * f + 4 * k) 4 = rgetV zs' (64 * f + 4 * k) 4) : atE zs f k = atE zs' f k ∧ atK zs f k = atK zs' f k ∧ atN zs f k = atN zs' f k := by
  by_cases hp : plcOk zs.length f k
  · obtain ⟨_, a1, a2, a3⟩ := at_yes hp
    obtain ⟨_, b1, b2, b3⟩ := at_yes (zs := zs') (f := f) (k := k) (by rw [← hl]; exact hp)
    rw [a1, a2, a3, b1, b2, b3, h hp]; exact ⟨rfl, rfl, rfl⟩
  · obtain ⟨a1, a2, a3⟩ := at_no hp
    obtain ⟨b1, b2, b3⟩ := at_no (zs := zs') (f := f) (k := k) (by rw [← hl]; exact hp)
    rw [a1, a2, a3, b1, b2, b3]; exact ⟨rfl, rfl, rfl⟩
theorem rgetV_num {zs : List Int} {p : Nat} (h : p + 4 ≤ zs.length) : rgetV zs p 4 = num zs p 4 := by
  unfold rgetV; rw [if_neg (by omega), Int.toNat_natCast]; rfl
theorem at_put_other {zs : List Int} {v j x f k : Int} (hv : plcOk zs.length v j) (hne : f ≠ v ∨ k ≠ j) (hk : 0 ≤ k ∧ k < 8) :
    atE (putN zs (64 * v + 4 * j).toNat x 4) f k = atE zs f k ∧ atK (putN zs (64 * v + 4 * j).toNat x 4) f k = atK zs f k ∧ atN (putN zs (64 * v + 4 * j).toNat x 4) f k = atN zs f k := by
  refine at_len (putN_len _ _ _ _) fun hp => ?_
  rw [putN_len] at hp
  unfold plcOk at hv hp
  obtain ⟨p, hpp⟩ : ∃ p : Nat, 64 * f + 4 * k = p := ⟨(64 * f + 4 * k).toNat, by omega⟩
  rw [hpp, rgetV_num (by rw [putN_len]; omega), rgetV_num (by omega)]
  exact num_apart (by omega) (by omega)
theorem at_put_same {zs : List Int} {v j x : Int} (hv : plcOk zs.length v j) (x0 : 0 ≤ x) (x1 : x < 4294967296) :
    atE (putN zs (64 * v + 4 * j).toNat x 4) v j = unE x ∧ atK (putN zs (64 * v + 4 * j).toNat x 4) v j = unK x ∧ atN (putN zs (64 * v + 4 * j).toNat x 4) v j = unN x := by
  obtain ⟨_, a1, a2, a3⟩ := at_yes (zs := putN zs (64 * v + 4 * j).toNat x 4) (f := v) (k := j) (by rw [putN_len]; exact hv)
  have e : rgetV (putN zs (64 * v + 4 * j).toNat x 4) (64 * v + 4 * j) 4 = x := by
    unfold plcOk at hv
    obtain ⟨p, hpp⟩ : ∃ p : Nat, 64 * v + 4 * j = p := ⟨(64 * v + 4 * j).toNat, by omega⟩
    rw [hpp, Int.toNat_natCast, rgetV_num (by rw [putN_len]; omega), num_put (by omega) (by omega)]
    show x % 4294967296 = x
    omega
  rw [a1, a2, a3, e]; exact ⟨rfl, rfl, rfl⟩
theorem packV_rng (k n : Int) : 0 ≤ packV k n ∧ packV k n < 65536 := by
  unfold packV
  split
  · rename_i h
    unfold packE at h
    split at h
    · cases h
    · split at h
      · cases h
      · omega
  · omega
theorem packE_0 {k n : Int} (h : packE k n = 0) : 0 ≤ k ∧ k ≤ 2 ∧ 0 ≤ n ∧ n < 64 := by
  unfold packE at h
  split at h
  · cases h
  · split at h
    · cases h
    · omega
theorem un_pack {k n : Int} (h : packE k n = 0) : unE (packV k n) = 0 ∧ unK (packV k n) = k ∧ unN (packV k n) = n := by
  have h2 := packE_0 h
  have h1 := packV_ok h
  have e1 : packV k n % 256 = k := by omega
  have e2 : packV k n / 256 = n := by omega
  have := un_ok (v := packV k n) (by rw [e1, e2]; exact h)
  rw [e1, e2] at this; exact this

/-- Leaf, of tables that are alike in the root. -/
theorem leaf_congr {zs zs' : List Int} {root page : Int} (h : 0 ≤ page → page < 64 → atE zs root (page / 8) = atE zs' root (page / 8) ∧ atK zs root (page / 8) = atK zs' root (page / 8) ∧ atN zs root (page / 8) = atN zs' root (page / 8)) :
    leafE zs root page = leafE zs' root page ∧ leafV zs root page = leafV zs' root page := by
  have e : leafE zs root page = leafE zs' root page := by
    unfold leafE
    by_cases hp : page < 0 ∨ 64 ≤ page
    · rw [if_pos hp, if_pos hp]
    · obtain ⟨e1, e2, _⟩ := h (by omega) (by omega)
      rw [if_neg hp, if_neg hp, e1, e2]
  refine ⟨e, ?_⟩
  unfold leafV
  rw [e]
  split
  · rename_i h0
    have := leaf0_page h0
    exact (h this.1 this.2).2.2
  · rfl
/-- What Put says, where it is OK. -/
theorem tput_ok {zs : List Int} {root page K N : Int} (h : tputE zs root page K N = 0) :
    leafE zs root page = 0 ∧ 0 ≤ page ∧ page < 64 ∧ packE K N = 0 ∧ plcOk zs.length (leafV zs root page) (page % 8) ∧ tputL zs root page K N = putN zs (64 * leafV zs root page + 4 * (page % 8)).toNat (packV K N) 4 := by
  have hL : leafE zs root page = 0 := by
    by_cases g : leafE zs root page = 0
    · exact g
    · unfold tputE at h; rw [if_pos g] at h; exact absurd h g
  have hp := leaf0_page hL
  have e1 : tputE zs root page K N = wrE zs (leafV zs root page) (page % 8) K N := by unfold tputE; rw [if_neg (by omega)]
  have e2 : tputL zs root page K N = wrL zs (leafV zs root page) (page % 8) K N := by unfold tputL tputW; rw [if_pos h, if_neg (by omega)]
  rw [e1] at h
  rcases wr_cases zs (leafV zs root page) (page % 8) K N with ⟨g, f1, _⟩ | ⟨_, _, f1, _⟩ | ⟨g1, g2, _, g3⟩
  · omega
  · omega
  · exact ⟨hL, hp.1, hp.2, g1, g2, by rw [e2, g3]⟩
theorem tput_back {zs : List Int} {root page K N : Int} (h : tputE zs root page K N = 0) (hne : leafV zs root page ≠ root) :
    getE (tputL zs root page K N) root page = 0 ∧ getK (tputL zs root page K N) root page = K ∧ getN (tputL zs root page K N) root page = N := by
  obtain ⟨h1, p0, p1, h2, h3, h4⟩ := tput_ok h
  rw [h4]
  obtain ⟨l1, l2⟩ := leaf_congr (zs := putN zs (64 * leafV zs root page + 4 * (page % 8)).toNat (packV K N) 4) (zs' := zs) (root := root) (page := page)
    (fun _ _ => at_put_other h3 (.inl (fun e => hne e.symm)) (by omega))
  rw [h1] at l1
  have hpv := packV_rng K N
  obtain ⟨s1, s2, s3⟩ := at_put_same (x := packV K N) h3 hpv.1 (by omega)
  obtain ⟨u1, u2, u3⟩ := un_pack h2
  unfold getE getK getN
  rw [l1, l2]
  simp only [if_true]
  rw [s1, s2, s3, u1, u2, u3]
  simp
theorem tput_leaf {zs : List Int} {root page K N : Int} (h : tputE zs root page K N = 0) (hne : leafV zs root page ≠ root) (other : Int) :
    leafE (tputL zs root page K N) root other = leafE zs root other ∧ leafV (tputL zs root page K N) root other = leafV zs root other := by
  obtain ⟨h1, p0, p1, h2, h3, h4⟩ := tput_ok h
  rw [h4]
  exact leaf_congr (fun _ _ => at_put_other h3 (.inl (fun e => hne e.symm)) (by omega))
theorem tput_other {zs : List Int} {root page K N : Int} (h : tputE zs root page K N = 0) (hne : leafV zs root page ≠ root) (other : Int)
    (hfar : leafE zs root other = 0 → leafV zs root other = leafV zs root page → other / 8 = page / 8 ∧ other ≠ page) :
    getE (tputL zs root page K N) root other = getE zs root other ∧ getK (tputL zs root page K N) root other = getK zs root other ∧ getN (tputL zs root page K N) root other = getN zs root other := by
  obtain ⟨l1, l2⟩ := tput_leaf h hne other
  obtain ⟨h1, p0, p1, h2, h3, h4⟩ := tput_ok h
  unfold getE getK getN
  rw [l1, l2]
  by_cases hl : leafE zs root other = 0
  · have hp := leaf0_page hl
    have hx : leafV zs root other ≠ leafV zs root page ∨ other % 8 ≠ page % 8 := by
      by_cases hv : leafV zs root other = leafV zs root page
      · have := hfar hl hv
        exact .inr (by omega)
      · exact .inl hv
    rw [h4]
    obtain ⟨s1, s2, s3⟩ := at_put_other (x := packV K N) h3 hx (by omega : 0 ≤ other % 8 ∧ other % 8 < 8)
    rw [s1, s2, s3]; exact ⟨rfl, rfl, rfl⟩
  · refine ⟨?_, by rw [if_neg hl, if_neg hl], by rw [if_neg hl, if_neg hl]⟩
    by_cases h3' : leafE zs root other = 3
    · rw [if_pos h3', if_pos h3']
    · rw [if_neg h3', if_pos hl, if_neg h3', if_pos hl]

set_option maxRecDepth 100000 in
theorem alive5_facts : linkE (List.replicate 4096 0) 2 13 3 = 0 ∧ tputE (linkL (List.replicate 4096 0) 2 13 3) 2 13 1 9 = 0 ∧ getE (tputL (linkL (List.replicate 4096 0) 2 13 3) 2 13 1 9) 2 13 = 0 ∧ getK (tputL (linkL (List.replicate 4096 0) 2 13 3) 2 13 1 9) 2 13 = 1 ∧ getN (tputL (linkL (List.replicate 4096 0) 2 13 3) 2 13 1 9) 2 13 = 9 ∧
    tputE (linkL (List.replicate 4096 0) 2 13 3) 2 40 1 9 = 3 ∧ leafE (tputL (linkL (List.replicate 4096 0) 2 13 3) 2 13 1 9) 2 8 = 0 ∧ leafV (tputL (linkL (List.replicate 4096 0) 2 13 3) 2 13 1 9) 2 8 = 3 := by
  decide +kernel
end Go.Proofs.Ytidfngplhjegpaa
