/- ram.New; what a call that makes bytes is to a region. -/
import Derived.Test.YtidfngplhjegpaaRamB
import Derived.Test.YtidfngplhjegpaaRamF
import Derived.Test.YtidfngplhjegpaaRegU
namespace Go.Proofs.Ytidfngplhjegpaa
open Go.RowKit Go.Sort

theorem rnew_any (w : World) : Calls Try.prog 20 #[] w fun e w' => e = .returned (.slice (some ⟨w.heap.size, 0, none⟩) 4096 4096) ∧ w' = w.alloc (.cells (zcells 4096) 5) := by
  have hm : ∀ w, (Instr.makeSlice 22 (.int .i64 4096) (.int .i64 4096)).run Try.prog w = .ok (.slice (some ⟨w.heap.size, 0, none⟩) 4096 4096) (w.alloc (.cells (zcells 4096) 5)) := fun w => make_u8 4096 (by omega) w
  go_enter Try.func20, Try.ntmps20
  go_wp2
  go_ret
  exact ⟨rfl, rfl⟩
theorem Row.any {k : IntKind} {w : World} {B B' : Nat} {A : Option Addr} {n : Nat} {zs : List Int} (h : Row k w B A n zs) (hB : B ≤ B') : Row k w B' A n zs :=
  ⟨h.1, h.2.1, fun hn => by obtain ⟨b, off, e, hb, hc⟩ := h.2.2 hn; exact ⟨b, off, e, by omega, hc⟩⟩
/-- A call, or a make, whose value is a slice that reads as zs. -/
def Sp.row (at_ : Nat) (k : IntKind) (zs : List Int) : Sp :=
  ⟨at_, fun v => ∃ A n c, v = .slice A n c, fun v w => ∃ A n c, v = .slice A n c ∧ Row k w w.heap.size A n zs, ⟨_, none, 0, 0, rfl⟩,
    fun _ _ _ ⟨A, n, c, e, h⟩ hb => ⟨A, n, c, e, (h.below hb).any hb.size⟩⟩
theorem conv_grown {w : World} {B : Nat} {A : Option Addr} {n c : Nat} {zs : List Int} (h : Row .u8 w B A n zs) (hB : B ≤ w.heap.size) (d : Nat) (os : Array Obj) :
    (convert 22 9 (.slice A n c)).run Try.prog (grow (redrawn w d) os) = .ok (.string (strOfNums zs)) (grow (redrawn w d) os) :=
  conv_row (h.below ((below_regrown w d os).mono hB))
end Go.Proofs.Ytidfngplhjegpaa
