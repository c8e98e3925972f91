/- TlbPlays: its walk. -/
import Derived.Test.YtfhcjainhpjdfaaTlbF
import Derived.Test.YtfhcjainhpjdfaaCacO
namespace Go.Proofs.Ytfhcjainhpjdfaa
open Go.ChangeShapes Go.WideShapes Go.ChangeAt Go.RowKit Go.Joins
set_option linter.unusedVariables false
set_option maxHeartbeats 1000000 in
theorem tlbPlays_walk {w : World} (A : Option Addr) (n c : Nat) (xs : List Cac) (hz : Rw fC 4 w w.heap.size A n xs) (hwf : ∀ x ∈ xs, x.fits) (_ : n ≤ c) (_ : c ≤ maxLen) (hbig : c ≤ 4398046510976) :
    Calls Try.prog 3 #[.slice A n c] w fun e w' => e = .returned (.bool true) ∧ Below w.heap.size w w' := by
  have HZ := Lib.hid hz
  clear hz
  have h8 := playC_len xs
  go_enter Try.func3, Try.ntmps3
  go_wp2_with fail
  refine (play_any A n c xs _ _ HZ.out (Nat.le_refl _) (by omega)).mono ?_
  rintro e w1 ⟨v, rfl, ho, hb1⟩
  obtain ⟨A1, c1, rfl, _, _, hr⟩ := ho.row fC_len
  have HR1 := Lib.hid hr
  clear ho hr
  go_wp2_with fail
  refine (fplay_any A n c xs _ _ (HZ.out.on hb1 (Nat.le_refl _)) (Nat.le_refl _) (by omega)).mono ?_
  rintro e w2 ⟨A2, n2, c2, rfl, hr2, hb2⟩
  have HR2 := Lib.hid hr2
  have hn2 := hr2.1
  have hz2 := hb2.size
  clear hr2
  have HR3 := Lib.hid (HR1.out.on hb2 (Nat.le_refl _))
  have HS := Lib.hid (sameL_refl (eq := eqC) (fun a => eqC_iff.2 rfl) (playC xs))
  have heq := equal_C A1 A2 (playC xs).length c1 n2 c2 (playC xs) (playC xs) w2 w2.heap.size HR3.out HR2.out (Nat.le_refl _) (by omega) (by omega)
  rw [HS.out] at heq
  have HN := Lib.hid hn2
  clear hn2
  generalize (playC xs).length = m at *
  go_wp2_with fail
  refine heq.mono ?_
  rintro e w3 ⟨rfl, hb3⟩
  clear heq
  go_wp2
  go_ret
  exact ⟨rfl, hb1.trans ((hb2.trans (hb3.mono hz2)).mono hb1.size)⟩
end Go.Proofs.Ytfhcjainhpjdfaa
