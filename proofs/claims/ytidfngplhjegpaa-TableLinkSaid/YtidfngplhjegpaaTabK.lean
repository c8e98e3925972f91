/- table.Hang, Clear, Link; the document's ELink: what they answer. -/
import Derived.Test.YtidfngplhjegpaaTabW
import Derived.Test.YtidfngplhjegpaaText
import Derived.Test.YtidfngplhjegpaaRamK
namespace Go.Proofs.Ytidfngplhjegpaa
open Go.RowKit
set_option linter.unusedVariables false

def zfill : List Int → Nat → Nat → List Int
  | zs, _, 0 => zs
  | zs, a, n + 1 => zfill (zs.set a 0) (a + 1) n
theorem zfill_len : ∀ (n : Nat) (zs : List Int) (a : Nat), (zfill zs a n).length = zs.length
  | 0, _, _ => rfl
  | n + 1, zs, a => by unfold zfill; rw [zfill_len n]; simp
theorem getD_set' (zs : List Int) (a k : Nat) (x : Int) (hk : k < zs.length) : (zs.set a x).getD k 0 = if a = k then x else zs.getD k 0 := by
  by_cases e : a = k
  · subst e; simp [List.getD, hk]
  · simp [List.getD, e]
theorem zfill_at (k : Nat) : ∀ (n : Nat) (zs : List Int) (a : Nat), k < zs.length → (zfill zs a n).getD k 0 = if a ≤ k ∧ k < a + n then 0 else zs.getD k 0
  | 0, zs, a, _ => by rw [if_neg (by omega)]; rfl
  | n + 1, zs, a, hk => by
    unfold zfill
    rw [zfill_at k n _ _ (by simpa using hk), getD_set' zs a k 0 hk]
    by_cases h1 : a + 1 ≤ k ∧ k < a + 1 + n
    · rw [if_pos h1, if_pos (by omega)]
    · rw [if_neg h1]
      by_cases h2 : a = k
      · rw [if_pos h2, if_pos (by omega)]
      · rw [if_neg h2, if_neg (by omega)]
/-- Noughts, four at a time. -/
def zputs (zs : List Int) (a : Nat) : Nat → List Int
  | 0 => zs
  | k + 1 => putN (zputs zs a k) (a + 4 * k) 0 4
theorem zputs_len (zs : List Int) (a : Nat) : ∀ k, (zputs zs a k).length = zs.length
  | 0 => rfl
  | k + 1 => by unfold zputs; rw [putN_len, zputs_len zs a k]
theorem zputs_at (zs : List Int) (a j : Nat) (hj : j < zs.length) : ∀ k, (zputs zs a k).getD j 0 = if a ≤ j ∧ j < a + 4 * k then 0 else zs.getD j 0
  | 0 => by rw [if_neg (by omega)]; rfl
  | k + 1 => by
    unfold zputs
    rw [putN_at _ _ _ _ (by rw [zputs_len]; exact hj), zputs_at zs a j hj k]
    by_cases h1 : a + 4 * k ≤ j ∧ j < a + 4 * k + 4
    · rw [if_pos h1, if_pos (by omega)]; simp
    · rw [if_neg h1]
      by_cases h2 : a ≤ j ∧ j < a + 4 * k
      · rw [if_pos h2, if_pos (by omega)]
      · rw [if_neg h2, if_neg (by omega)]
theorem zputs_fill (zs : List Int) (a k : Nat) : zputs zs a k = zfill zs a (4 * k) :=
  list_ext (by rw [zputs_len, zfill_len]) fun j hj => by
    rw [zputs_len] at hj
    rw [zputs_at zs a j hj, zfill_at j _ _ _ hj]
theorem zfill_bytes {zs : List Int} (hb : Bytes zs) (a n : Nat) : Bytes (zfill zs a n) := fun i => by
  rcases Nat.lt_or_ge i zs.length with h | h
  · rw [zfill_at i _ _ _ h]
    split
    · omega
    · exact hb i
  · have : (zfill zs a n).getD i 0 = 0 := by simp [List.getD, List.getElem?_eq_none (show (zfill zs a n).length ≤ i by rw [zfill_len]; exact h)]
    rw [this]; omega
theorem own_fill {T : TypeId} {base g len c : Nat} : ∀ (n : Nat) (zs : List Int) (a : Nat) (w : World), Own .u8 T w base (some ⟨g, 0, none⟩) len c zs → a + n ≤ len →
    Own .u8 T (w.setCells g a (List.replicate n (.int .u8 0))) base (some ⟨g, 0, none⟩) len c (zfill zs a n)
  | 0, zs, a, w, h, _ => h
  | n + 1, zs, a, w, h, hl => own_fill n (zs.set a 0) (a + 1) _ (h.set_ (i := a) (x := 0) (by omega)) (by omega)
theorem below_fill {B g : Nat} (hg : B ≤ g) : ∀ (vs : List Value) (a : Nat) (w : World), Below B w (w.setCells g a vs)
  | [], _, _ => Below.refl _ _
  | v :: vs, a, w => ((Below.refl B w).setCell (p := ⟨g, a, none⟩) hg v).trans (below_fill hg vs (a + 1) _)

def hangE (zs : List Int) (root page leaf : Int) : Int := if page < 0 ∨ 64 ≤ page then 2 else wrE zs root (page / 8) 1 leaf
def hangW (zs : List Int) (root page leaf : Int) : List Int := if page < 0 ∨ 64 ≤ page then zs else wrL zs root (page / 8) 1 leaf
set_option maxHeartbeats 4000000 in
theorem hang_any (A : Option Addr) (len c : Nat) (zs : List Int) (root page leaf : Int) (w : World) (base : Nat) (ho : Own .u8 5 w base A len c zs) (hB : base ≤ w.heap.size) (hn : len ≤ 140737488355328) :
    Calls Try.prog 42 #[.slice A len c, .int .i64 root, .int .i64 page, .int .i64 leaf] w (WrP 5 w base A len c (hangE zs root page leaf) (hangW zs root page leaf)) := by
  have HO := Lib.hid ho
  by_cases h : page < 0 ∨ 64 ≤ page
  · have e1 : hangE zs root page leaf = 2 := by unfold hangE; rw [if_pos h]
    have e2 : hangW zs root page leaf = zs := by unfold hangW; rw [if_pos h]
    rw [e1, e2]
    clear e1 e2 ho
    rcases h with h | h
    all_goals
      go_enter Try.func42, Try.ntmps42
      go_wp2
      all_goals go_ret
      all_goals exact ⟨rfl, HO.out, Below.refl _ _⟩
  · have e1 : hangE zs root page leaf = wrE zs root (page / 8) 1 leaf := by unfold hangE; rw [if_neg h]
    have e2 : hangW zs root page leaf = wrL zs root (page / 8) 1 leaf := by unfold hangW; rw [if_neg h]
    rw [e1, e2]
    have p0 : 0 ≤ page := by omega
    have p1 : page < 64 := by omega
    have HW := Lib.hid (twr_any A len c zs root (page / 8) 1 leaf w base ho hB hn (by omega) (by omega))
    clear e1 e2 ho h
    go_enter Try.func42, Try.ntmps42
    go_wp2_with fail
    refine HW.out.mono ?_
    rintro e w1 ⟨rfl, ho1, hb1⟩
    have HQ := Lib.hid ho1
    clear ho1
    go_wp2
    go_ret
    exact ⟨rfl, HQ.out, hb1⟩

/-- 64 noughts, as cells. -/
def zvals : List Value := List.replicate 64 (.int .u8 0)
theorem zeroU8 (w : World) : (zeroValue 5).run Try.prog w = .ok (.int .u8 0) w := by kernel_rfl
def clrOk (len : Nat) (f : Int) : Prop := 0 ≤ f ∧ f < 64 ∧ 64 * f + 64 ≤ len
instance (len : Nat) (f : Int) : Decidable (clrOk len f) := by unfold clrOk; infer_instance
def clrL (zs : List Int) (f : Int) : List Int := if clrOk zs.length f then zfill zs (64 * f).toNat 64 else zs
set_option maxHeartbeats 4000000 in
theorem clear_any (A : Option Addr) (len c : Nat) (zs : List Int) (f : Int) (w : World) (base : Nat) (ho : Own .u8 5 w base A len c zs) (hn : len ≤ 140737488355328) :
    Calls Try.prog 43 #[.slice A len c, .int .i64 f] w fun e w' => e = .returned (.tuple #[]) ∧ Own .u8 5 w' base A len c (clrL zs f) ∧ Below base w w' := by
  have hl := ho.1
  have hcap := ho.2.1
  have hcm := ho.2.2.1
  by_cases h : clrOk zs.length f
  · have e : clrL zs f = zfill zs (64 * f).toNat 64 := by unfold clrL; rw [if_pos h]
    rw [e]
    unfold clrOk at h
    obtain ⟨h0, h1, h2⟩ := h
    obtain ⟨p, hp⟩ : ∃ p : Nat, f * 64 = p := ⟨(f * 64).toNat, by omega⟩
    have ep : (64 * f).toNat = p := by omega
    rw [ep]
    have hpl : p + 64 ≤ len := by omega
    obtain ⟨g, cur, rfl, hg, hh, hcc⟩ := ho.2.2.2 (by omega)
    have HF : Hid (frameF f = p) := Lib.hid (by unfold frameF; rw [if_neg (by omega)]; exact hp)
    have hclr : ∀ ty cc, (Builtin.clear_ #[22] ty #[.slice (some ⟨g, p, none⟩) 64 cc]).run Try.prog w = .ok (.tuple #[]) (w.setCells g p zvals) := fun ty cc =>
      Lib.run_clear_slice (P := Try.prog) w 22 5 ty (.int .u8 0) Try.underlying22 zeroU8 rfl rfl g p 64 cc (by decide)
        (fun j hj => by rw [blk_cell hh, hcc (p + j) (by omega)]; rfl) (fun j hj => blk_free hh _)
    have HO := Lib.hid ho
    have hp0 : (p : Int) + 64 ≤ (len : Int) := by omega
    have hcap2 : len ≤ c := hcap
    clear e ho h0 h1 h2 hl hh hcc ep hp
    go_enter Try.func43, Try.ntmps43
    go_wp2_with (go_at_call 19; refine (frame_any f _).mono ?_; rintro e' w' ⟨rfl, hw⟩; rw [hw, HF.out]; clear hw)
    go_end0
    exact ⟨rfl, own_fill 64 zs p w HO.out hpl, below_fill hg _ _ _⟩
  · have e : clrL zs f = zs := by unfold clrL; rw [if_neg h]
    rw [e]
    have HO := Lib.hid ho
    unfold clrOk at h
    by_cases hf : f < 0 ∨ 64 ≤ f
    · have HF : Hid (frameF f = -1) := Lib.hid (by unfold frameF; rw [if_pos (by omega)])
      clear e ho h hl
      go_enter Try.func43, Try.ntmps43
      go_wp2_with (go_at_call 19; refine (frame_any f _).mono ?_; rintro e' w' ⟨rfl, hw⟩; rw [hw, HF.out]; clear hw)
      go_end0
      exact ⟨rfl, HO.out, Below.refl _ _⟩
    · have HF : Hid (frameF f = f * 64) := Lib.hid (by unfold frameF; rw [if_neg (by omega)])
      have f0 : 0 ≤ f := by omega
      have f1 : f < 64 := by omega
      have f2 : (len : Int) < f * 64 + 64 := by omega
      have f3 : 0 ≤ f * 64 := by omega
      clear e ho h hl hf
      go_enter Try.func43, Try.ntmps43
      go_wp2_with (go_at_call 19; refine (frame_any f _).mono ?_; rintro e' w' ⟨rfl, hw⟩; rw [hw, HF.out]; clear hw)
      go_end0
      exact ⟨rfl, HO.out, Below.refl _ _⟩
end Go.Proofs.Ytidfngplhjegpaa
