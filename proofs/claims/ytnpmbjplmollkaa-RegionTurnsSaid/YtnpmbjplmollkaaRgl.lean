/- Regions in plain Lean. -/
import Derived.Test.YtnpmbjplmollkaaRgn
namespace Go.Proofs.Ytnpmbjplmollkaa
set_option linter.unusedVariables false
def okR (x : Rgn) : Bool := decide (0 ≤ x.f) && decide (x.t ≤ 64) && decide (x.f < x.t)
def nextOk (p x : Rgn) : Bool := !(decide (x.f < p.t) || (p.t == x.f && eqA p.a x.a))
def rightG : Option Rgn → List Rgn → Bool
  | _, [] => true
  | p, x :: l => okR x && (match p with | none => true | some p => nextOk p x) && rightG (some x) l
def rightL (l : List Rgn) : Bool := rightG none l
theorem rightG_bad : ∀ (l : List Rgn) (q : Option Rgn) (k : Nat) (x : Rgn), l[k]? = some x → (okR x = false ∨ ∃ p, (if k = 0 then q else l[k - 1]?) = some p ∧ nextOk p x = false) → rightG q l = false
  | [], _, _, _, h, _ => by simp at h
  | y :: l, q, 0, x, h, h2 => by
    simp at h; subst h
    unfold rightG
    rcases h2 with h2 | ⟨p, hp, h2⟩
    · rw [h2]; rfl
    · rw [if_pos rfl] at hp
      subst hp
      simp [h2]
  | y :: l, q, k + 1, x, h, h2 => by
    unfold rightG
    rw [rightG_bad l (some y) k x (by simpa using h) (h2.imp id fun ⟨p, hp, h3⟩ => ⟨p, by
      rw [if_neg (by omega), Nat.add_sub_cancel] at hp
      cases k with
      | zero => simpa using hp
      | succ k => simpa using hp, h3⟩), Bool.and_false]
theorem rightG_good : ∀ (l : List Rgn) (q : Option Rgn), (∀ k x, k < l.length → l[k]? = some x → okR x = true ∧ ∀ p, (if k = 0 then q else l[k - 1]?) = some p → nextOk p x = true) → rightG q l = true
  | [], _, _ => rfl
  | y :: l, q, h => by
    unfold rightG
    have h0 := h 0 y (by simp) rfl
    rw [h0.1, rightG_good l (some y) fun k x hk hx => ?_]
    · cases q with
      | none => rfl
      | some p =>
        have := h0.2 p rfl
        simp [this]
    · have h1 := h (k + 1) x (by simpa using hk) (by simpa using hx)
      refine ⟨h1.1, fun p hp => h1.2 p ?_⟩
      rw [if_neg (by omega), Nat.add_sub_cancel]
      cases k with
      | zero => simpa using hp
      | succ k => simpa using hp
def outP (a b : Int) (x : Rgn) : List Rgn := (if x.f < min x.t a then [⟨x.f, min x.t a, x.a⟩] else []) ++ (if max x.f b < x.t then [⟨max x.f b, x.t, x.a⟩] else [])
def inP (a b : Int) (x : Rgn) : List Rgn := if max x.f a < min x.t b then [⟨max x.f a, min x.t b, x.a⟩] else []
def outL (a b : Int) (l : List Rgn) : List Rgn := l.flatMap (outP a b)
def inL (a b : Int) (l : List Rgn) : List Rgn := l.flatMap (inP a b)
theorem outL_snoc (a b : Int) (l : List Rgn) (x : Rgn) : outL a b (l ++ [x]) = outL a b l ++ outP a b x := by simp [outL]
theorem inL_snoc (a b : Int) (l : List Rgn) (x : Rgn) : inL a b (l ++ [x]) = inL a b l ++ inP a b x := by simp [inL]
theorem outP_len (a b : Int) (x : Rgn) : (outP a b x).length ≤ 2 := by unfold outP; split <;> split <;> simp
theorem inP_len (a b : Int) (x : Rgn) : (inP a b x).length ≤ 1 := by unfold inP; split <;> simp
theorem take_snocR {xs : List Rgn} {k : Nat} {x : Rgn} (h : xs[k]? = some x) : xs.take (k + 1) = xs.take k ++ [x] := by
  have hl := (List.getElem?_eq_some_iff.1 h).1
  rw [List.take_succ_eq_append_getElem hl, (List.getElem?_eq_some_iff.1 h).2]
end Go.Proofs.Ytnpmbjplmollkaa
