/- Small lemmas on rows. -/
import Derived.Test.YtnbhchfpfbbngaaOwn
import Derived.Laws.MakeOwn
namespace Go.Proofs.Ytnbhchfpfbbngaa
open Go.RowKit
theorem getD_rep (k i : Nat) : (List.replicate k (0 : Int)).getD i 0 = 0 := by
  rcases Nat.lt_or_ge i k with h | h
  · simp [List.getD, h]
  · simp [List.getD, Nat.not_lt.2 h]
theorem own_from {w : World} {base : Nat} {e : TypeId} {size n : Nat} {v : Value} {xs : List Value} (h : w.ownsRow base e size v n xs) : ∀ k, v.ownBlock = some k → base ≤ k := by
  intro k hk
  rcases h.2 with ⟨rfl, _⟩ | ⟨g, cap, cur, rfl, hg, _⟩
  · simp [Value.ownBlock] at hk
  · simp [Value.ownBlock] at hk; omega
theorem Addr.add_zero_lit (b : Nat) : (Addr.add ⟨b, 0, none⟩ 0) = ⟨b, 0, none⟩ := by rw [Addr.add_lit]
theorem take_next {zs : List Int} {k : Nat} (h : k < zs.length) : zs.take (k + 1) = zs.take k ++ [zs.getD k 0] := by
  rw [List.take_succ_eq_append_getElem h, getD_get0 h]
end Go.Proofs.Ytnbhchfpfbbngaa
