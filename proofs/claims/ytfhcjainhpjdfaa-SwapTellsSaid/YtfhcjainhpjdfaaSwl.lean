/- The device in plain Lean. -/
import Derived.Test.YtfhcjainhpjdfaaSlo
namespace Go.Proofs.Ytfhcjainhpjdfaa
set_option linter.unusedVariables false
def freeS (s : Slo) : Bool := decide (s.r < 1)
def putE (ss : List Slo) (b t : List Int) (refs : Int) : Int :=
  if b.length ≠ 64 ∨ t.length ≠ 4 ∨ refs < 1 ∨ 4 < refs then 2 else if ss.findIdx freeS < ss.length then 0 else 4
def putN (ss : List Slo) (b t : List Int) (refs : Int) : Nat := if putE ss b t refs = 0 then ss.findIdx freeS else 0
def putS (ss : List Slo) (b t : List Int) (refs : Int) : List Slo := if putE ss b t refs = 0 then ss.set (ss.findIdx freeS) ⟨refs, b, t⟩ else []
def liveAt (ss : List Slo) (n : Int) (s : Slo) : Prop := 0 ≤ n ∧ ss[n.toNat]? = some s ∧ 0 < s.r
/-- One more, or one less. -/
def bump (s : Slo) (by_ : Int) : Slo := if s.r + by_ = 0 then ⟨0, [], []⟩ else ⟨s.r + by_, s.b, s.t⟩
def deadAt (ss : List Slo) (n : Int) : Prop := n < 0 ∨ (ss.length : Int) ≤ n ∨ ∃ s, ss[n.toNat]? = some s ∧ s.r < 1
theorem live_or_dead (ss : List Slo) (n : Int) : (∃ s, liveAt ss n s) ∨ deadAt ss n := by
  by_cases h0 : n < 0
  · exact .inr (.inl h0)
  · by_cases h1 : (ss.length : Int) ≤ n
    · exact .inr (.inr (.inl h1))
    · have hl : n.toNat < ss.length := by omega
      by_cases h2 : (ss[n.toNat]).r < 1
      · exact .inr (.inr (.inr ⟨_, List.getElem?_eq_getElem hl, h2⟩))
      · exact .inl ⟨ss[n.toNat], by omega, List.getElem?_eq_getElem hl, Int.not_lt.1 h2⟩
theorem findIdx_map {α β : Type} (f : α → Bool) (g : β → Bool) : ∀ (xs : List α) (ys : List β), xs.length = ys.length → (∀ (i : Nat) (x : α) (y : β), xs[i]? = some x → ys[i]? = some y → f x = g y) → xs.findIdx f = ys.findIdx g
  | [], [], _, _ => rfl
  | x :: xs, [], h, _ => by simp at h
  | [], y :: ys, h, _ => by simp at h
  | x :: xs, y :: ys, h, h2 => by
    rw [List.findIdx_cons, List.findIdx_cons, h2 0 x y rfl rfl, findIdx_map f g xs ys (by simpa using h) (fun i a b ha hb => h2 (i + 1) a b (by simpa using ha) (by simpa using hb))]
end Go.Proofs.Ytfhcjainhpjdfaa
