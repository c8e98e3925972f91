/- swap's functions. -/
import Derived.Test.YtfhcjainhpjdfaaSlS
import Derived.Test.YtfhcjainhpjdfaaSwi
import Derived.Test.YtfhcjainhpjdfaaSwl
import Derived.Test.YtfhcjainhpjdfaaSw
namespace Go.Proofs.Ytfhcjainhpjdfaa
open Go.ChangeShapes Go.WideShapes Go.ChangeAt Go.RowKit Go.Joins
set_option linter.unusedVariables false
/-- A slice that holds these slots. -/
def SlG (base : World) (ss : List Slo) (A : Option Addr) (n : Nat) (w' : World) : Prop := ∃ ys, Rw fS 3 w' w'.heap.size A n ys ∧ Sls w' w'.heap.size ys ss ∧ Below base.heap.size base w'
def TPutS (N E : Int) (ss : List Slo) (w : World) (e : Ending) (w' : World) : Prop := ∃ A n c, n ≤ c ∧ e = .returned (.tuple #[.slice A n c, .int .i64 N, .int .i64 E]) ∧ SlG w ss A n w'
def TRefS (E : Int) (ss : List Slo) (w : World) (e : Ending) (w' : World) : Prop := ∃ A n c, e = .returned (.tuple #[.slice A n c, .int .i64 E]) ∧ SlG w ss A n w'
theorem slg_nil {w w' : World} (h : Below w.heap.size w w') : SlG w [] none 0 w' := ⟨[], Rw.nil, Sls.nil, h⟩

theorem slot_yes (A : Option Addr) (n c : Nat) (xs : List Slv) (ss : List Slo) (w : World) (B B' : Nat) (hz : Rw fS 3 w B A n xs) (hs : Sls w B' xs ss) (k : Int) (s : Slo) (h : liveAt ss k s) :
    Calls Try.prog 40 #[.slice A n c, .int .i64 k] w fun e w' => e = .returned (.bool true) ∧ w = w' := by
  obtain ⟨h0, h1, h2⟩ := h
  obtain ⟨i, rfl⟩ := Int.eq_ofNat_of_zero_le h0
  rw [Int.toNat_natCast] at h1
  have hi : i < n := by have := (List.getElem?_eq_some_iff.1 h1).1; rw [← hz.1, hs.1]; exact this
  obtain ⟨b, off, rfl, hb⟩ := hz.open (by omega)
  obtain ⟨x, s', hx, hs', hr⟩ := hs.get (i := i) (by rw [hz.1]; exact hi)
  rw [h1] at hs'; cases hs'
  have hc : w.cell? ⟨b, off + i * 3, none⟩ = some (.int .i64 x.r) := hz.at_ fS_len hx 0 _ rfl
  have hxr : 0 < x.r := by rw [hr.r]; exact h2
  have hin : (i : Int) < (n : Int) := by omega
  clear h1 hx hr hz hs
  go_enter Try.func40, Try.ntmps40
  go_wp2
  go_ret
  exact ⟨rfl, rfl⟩
theorem slot_no (A : Option Addr) (n c : Nat) (xs : List Slv) (ss : List Slo) (w : World) (B B' : Nat) (hz : Rw fS 3 w B A n xs) (hs : Sls w B' xs ss) (k : Int) (h : deadAt ss k) :
    Calls Try.prog 40 #[.slice A n c, .int .i64 k] w fun e w' => e = .returned (.bool false) ∧ w = w' := by
  have hl : n = ss.length := by rw [← hz.1, hs.1]
  rcases (show k < 0 ∨ 0 ≤ k by omega) with h0 | h0
  · clear hz hs
    go_enter Try.func40, Try.ntmps40
    go_wp2
    go_ret
    exact ⟨rfl, rfl⟩
  · obtain ⟨i, rfl⟩ := Int.eq_ofNat_of_zero_le h0
    by_cases hi : i < n
    · obtain ⟨s, h1, h2⟩ : ∃ s, ss[i]? = some s ∧ s.r < 1 := by
        rcases h with h | h | ⟨s, h, h'⟩
        · omega
        · omega
        · exact ⟨s, by rwa [Int.toNat_natCast] at h, h'⟩
      obtain ⟨b, off, rfl, hb⟩ := hz.open (by omega)
      obtain ⟨x, s', hx, hs', hr⟩ := hs.get (i := i) (by rw [hz.1]; exact hi)
      rw [h1] at hs'; cases hs'
      have hc : w.cell? ⟨b, off + i * 3, none⟩ = some (.int .i64 x.r) := hz.at_ fS_len hx 0 _ rfl
      have hxr : x.r ≤ 0 := by rw [hr.r]; omega
      have hxd : decide (0 < x.r) = false := by simpa using hxr
      have hin : (i : Int) < (n : Int) := by omega
      clear h1 hx hr hz hs hl h
      go_enter Try.func40, Try.ntmps40
      go_wp2
      go_ret
      exact ⟨rfl, rfl⟩
    · have hin : (n : Int) ≤ (i : Int) := by omega
      clear hz hs h hl
      go_enter Try.func40, Try.ntmps40
      go_wp2
      go_ret
      exact ⟨rfl, rfl⟩

set_option maxHeartbeats 1000000 in
theorem own_any (A : Option Addr) (n c : Nat) (xs : List Slv) (w : World) (B : Nat) (hz : Rw fS 3 w B A n xs) (hB : B ≤ w.heap.size) (i : Nat) (hi : i < n) (s : Slv) (hbig : n ≤ 2513169434916) :
    Calls Try.prog 37 #[.slice A n c, .int .i64 i, .agg #[.int .i64 s.r, .slice s.bA s.bn s.bc, .slice s.tA s.tn s.tc]] w (Gives fS 3 52 w.heap.size w (xs.set i s)) := by
  have hln := hz.1
  have HZ := Lib.hid hz
  clear hz
  go_enter Try.func37, Try.ntmps37
  go_wp2_with fail
  refine (clone_S A n c xs _ B (HZ.out.below ((Below.refl B w).alloc hB _)) (by simp; omega) hbig).mono ?_
  rintro e w1 ⟨v, rfl, ho, hb1⟩
  simp only [World.size_alloc] at ho hb1
  obtain ⟨g, c1, rfl, hg, hnc, hm⟩ := own_form ho (by omega)
  rw [hln] at hnc
  obtain ⟨x, hx⟩ : ∃ x, xs[i]? = some x := ⟨xs[i]'(by omega), List.getElem?_eq_getElem _⟩
  have hco := ho.cells fS_len hx
  have o0 : w1.cell? ⟨g, i * 3, none⟩ = some (.int .i64 x.r) := (hco 0 _ rfl).1
  have f0 : w1.frozen? ⟨g, i * 3, none⟩ = false := (hco 0 _ rfl).2
  have o1 : w1.cell? ⟨g, i * 3 + 1, none⟩ = some (.slice x.bA x.bn x.bc) := (hco 1 _ rfl).1
  have f1 : w1.frozen? ⟨g, i * 3 + 1, none⟩ = false := (hco 1 _ rfl).2
  have o2 : w1.cell? ⟨g, i * 3 + 2, none⟩ = some (.slice x.tA x.tn x.tc) := (hco 2 _ rfl).1
  have f2 : w1.frozen? ⟨g, i * 3 + 2, none⟩ = false := (hco 2 _ rfl).2
  have b0 : w1.cell? ⟨w.heap.size, 0, none⟩ = some (.int .i64 s.r) := by rw [hb1.cell (p := ⟨w.heap.size, 0, none⟩) (Nat.lt_succ_self _)]; simp [go_sem]
  have b1 : w1.cell? ⟨w.heap.size, 1, none⟩ = some (.slice s.bA s.bn s.bc) := by rw [hb1.cell (p := ⟨w.heap.size, 1, none⟩) (Nat.lt_succ_self _)]; simp [go_sem]
  have b2 : w1.cell? ⟨w.heap.size, 2, none⟩ = some (.slice s.tA s.tn s.tc) := by rw [hb1.cell (p := ⟨w.heap.size, 2, none⟩) (Nat.lt_succ_self _)]; simp [go_sem]
  have HO := Lib.hid (ho.rebase (show w.heap.size ≤ w.heap.size + 1 by omega))
  have HB1 := Lib.hid (((Below.refl w.heap.size w).alloc (Nat.le_refl _) (.cells #[.int .i64 s.r, .slice s.bA s.bn s.bc, .slice s.tA s.tn s.tc] 52)).trans (hb1.mono (by omega)))
  have HX := Lib.hid hx
  have HLN := Lib.hid hln
  have hin : (i : Int) < (xs.length : Int) := by omega
  clear ho hb1 hx hco hln
  go_wp2
  go_ret
  exact ⟨_, rfl, HO.out.set fS_len (by decide) (by have := HLN.out; omega) s, below_setCells (by omega) (fS s) (i * 3) _ HB1.out⟩

theorem free_pred (base : Nat) (w : World) : PredS 36 #[] (fun x => decide (x.r < 1)) base w := by
  intro W x hW
  clear hW
  by_cases h : x.r < 1
  · have hd : decide (x.r < 1) = true := by simpa using h
    show Calls _ _ _ _ fun e w' => e = .returned (.bool (decide (x.r < 1))) ∧ _
    rw [hd]
    go_enter Try.func36, Try.ntmps36
    go_wp2
    go_ret
    exact ⟨rfl, (Below.refl _ _).alloc (Nat.le_refl _) _⟩
  · have hd : decide (x.r < 1) = false := by simpa using h
    show Calls _ _ _ _ fun e w' => e = .returned (.bool (decide (x.r < 1))) ∧ _
    rw [hd]
    go_enter Try.func36, Try.ntmps36
    go_wp2
    go_ret
    exact ⟨rfl, (Below.refl _ _).alloc (Nat.le_refl _) _⟩
theorem free_idx {w : World} {B : Nat} {xs : List Slv} {ss : List Slo} (h : Sls w B xs ss) : xs.findIdx (fun x => decide (x.r < 1)) = ss.findIdx freeS :=
  findIdx_map _ _ xs ss h.1 fun i x s hx hs => by unfold freeS; rw [(h.2 i x s hx hs).r]
end Go.Proofs.Ytfhcjainhpjdfaa
