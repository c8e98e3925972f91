/- The reference's LPut and LRefs. -/
import Derived.Test.YtfhcjainhpjdfaaSwc
import Derived.Test.YtfhcjainhpjdfaaSwm
namespace Go.Proofs.Ytfhcjainhpjdfaa
open Go.ChangeShapes Go.WideShapes Go.ChangeAt Go.RowKit Go.Joins
set_option linter.unusedVariables false
theorem appends_S {ops : Array Oper} {rest : List Oper} {o : Oper} {a : Act} {Q : Exit → Act → World → Prop} (hgd : o.guard = none) (s x : Operand) (ho : o.op = .call { callee := .builtin .append, args := #[s, x], argTypes := #[36, 36] })
    (base : Nat) (v : Value) (t : List Slv) (W : World) (B : Nat) (ad : Addr) (m c : Nat) (ys : List Slv) (hs : a.eval s = v) (hx : a.eval x = .slice (some ad) m c) (hos : Os fS 3 52 W base v t) (hr : Rw fS 3 W B (some ad) m ys) (hb : base ≤ W.heap.size) (hlen : t.length + m ≤ 2513169434916)
    (hK : ∀ A' c' w', Os fS 3 52 w' base (.slice A' (t.length + m) c') (t ++ ys) → Below base W w' → t.length + m ≤ c' → c' ≤ maxLen → wpList Try.prog ops Q rest (a.put o.dst (.slice A' (t.length + m) c')) w') :
    wpList Try.prog ops Q (o :: rest) a W :=
  append_many Try.underlying36 info_S rfl (by decide) fS_len fS_one1 hgd s x ho base v t W B ad m c ys hs hx hos hr hb (by unfold maxLen; omega) (by omega) hK
theorem append_S {ops : Array Oper} {rest : List Oper} {o : Oper} {a : Act} {Q : Exit → Act → World → Prop} (hgd : o.guard = none) (s x : Operand) (ho : o.op = .call { callee := .builtin .append, args := #[s, x], argTypes := #[36, 36] })
    (base : Nat) (v : Value) (t : List Slv) (W : World) (y : Slv) (gx : Nat) (hs : a.eval s = v) (hx : a.eval x = .slice (some ⟨gx, 0, none⟩) 1 1) (hgx : gx = W.heap.size) (hos : Os fS 3 52 W base v t) (hb : base ≤ W.heap.size) (hlen : t.length + 1 ≤ 2513169434916)
    (hK : ∀ g' c' w', Os fS 3 52 w' base (.slice (some ⟨g', 0, none⟩) (t.length + 1) c') (t ++ [y]) → Below base W w' → base ≤ g' → t.length + 1 ≤ c' → c' ≤ maxLen → wpList Try.prog ops Q rest (a.put o.dst (.slice (some ⟨g', 0, none⟩) (t.length + 1) c')) w') :
    wpList Try.prog ops Q (o :: rest) a (W.alloc (.cells #[.int .i64 y.r, .slice y.bA y.bn y.bc, .slice y.tA y.tn y.tc] 52)) :=
  append_one Try.underlying36 info_S rfl (by decide) fS_len fS_one1 hgd s x ho base v t W y gx hs hx hgx hos hb (by unfold maxLen; omega) (by omega) hK
theorem set_parts {α : Type} {xs : List α} {k : Nat} (h : k < xs.length) (y : α) : xs.take k ++ [y] ++ xs.drop (k + 1) = xs.set k y := by
  rw [List.set_eq_take_append_cons_drop, if_pos h]; simp
theorem free_lt {ss : List Slo} {k : Nat} {s : Slo} (hs : ss[k]? = some s) (h : k < ss.findIdx freeS) : 1 ≤ s.r := by
  have := List.not_of_lt_findIdx h
  rw [(List.getElem?_eq_some_iff.1 hs).2] at this
  simp [freeS] at this; omega
theorem free_at {ss : List Slo} {k : Nat} {s : Slo} (hs : ss[k]? = some s) (h : k = ss.findIdx freeS) : s.r < 1 := by
  subst h
  have hl := (List.getElem?_eq_some_iff.1 hs).1
  have := List.findIdx_getElem (w := hl)
  rw [(List.getElem?_eq_some_iff.1 hs).2] at this
  simpa [freeS] using this

set_option maxHeartbeats 2000000 in
set_option maxRecDepth 100000 in
theorem lput_any (A : Option Addr) (n c : Nat) (xs : List Slv) (ss : List Slo) (bA : Option Addr) (bn bc : Nat) (bs : List Int) (tA : Option Addr) (tn tc : Nat) (ts : List Int) (refs : Int) (w : World) (hz : Rw fS 3 w w.heap.size A n xs) (hs : Sls w w.heap.size xs ss)
    (hb : Row .u8 w w.heap.size bA bn bs) (ht : Row .i64 w w.heap.size tA tn ts) (hnc : n ≤ c) (hbig : n ≤ 2513169434915) :
    Calls Try.prog 26 #[.slice A n c, .slice bA bn bc, .slice tA tn tc, .int .i64 refs] w (TPutS (putN ss bs ts refs) (putE ss bs ts refs) (putS ss bs ts refs) w) := by
  have hbl := hb.1
  have htl := ht.1
  have hnl := hz.1
  by_cases hE2 : bs.length ≠ 64 ∨ ts.length ≠ 4 ∨ refs < 1 ∨ 4 < refs
  · have hE : putE ss bs ts refs = 2 := by unfold putE; rw [if_pos hE2]
    have hN : putN ss bs ts refs = 0 := by unfold putN; rw [hE]; rfl
    have hS : putS ss bs ts refs = [] := by unfold putS; rw [hE]; rfl
    rw [hE, hN, hS]
    clear hE hN hS hz hs hb ht
    rw [hbl, htl] at hE2
    clear hbl htl hnl
    have fin : TPutS ((0 : Nat) : Int) 2 [] w (.returned (.tuple #[.slice none 0 0, .int .i64 0, .int .i64 2])) w := ⟨none, 0, 0, Nat.le_refl _, rfl, slg_nil (Below.refl _ _)⟩
    have FIN := Lib.hid fin
    clear fin
    by_cases h1 : bn = 64
    · have e1 : ((bn : Int) != 64) = false := by subst h1; rfl
      by_cases h2 : tn = 4
      · have e2 : ((tn : Int) != 4) = false := by subst h2; rfl
        have h3 : refs < 1 ∨ (1 ≤ refs ∧ 4 < refs) := by omega
        clear h1 h2 hE2
        rcases h3 with h3 | ⟨h3, h4⟩
        · go_enter Try.func26, Try.ntmps26
          go_wp2
          go_ret3
          exact FIN.out
        · go_enter Try.func26, Try.ntmps26
          go_wp2
          go_ret3
          exact FIN.out
      · have e2 : ((tn : Int) != 4) = true := by rw [bne_iff_ne]; omega
        clear h1 h2 hE2
        go_enter Try.func26, Try.ntmps26
        go_wp2
        go_ret3
        exact FIN.out
    · have e1 : ((bn : Int) != 64) = true := by rw [bne_iff_ne]; omega
      clear h1 hE2
      go_enter Try.func26, Try.ntmps26
      go_wp2
      go_ret3
      exact FIN.out
  · have h1 : bn = 64 := by omega
    have h2 : tn = 4 := by omega
    have h3 : 1 ≤ refs := by omega
    have h4 : refs ≤ 4 := by omega
    subst h1 h2
    have hfl : ss.findIdx freeS ≤ n := by rw [← hnl, hs.1]; exact List.findIdx_le_length
    have HZ := Lib.hid hz
    have HSs := Lib.hid hs
    have HB := Lib.hid hb
    have HT := Lib.hid ht
    have hsn : ss.length = n := by rw [← hs.1, hnl]
    have HE0 : Hid (ss.findIdx freeS < n → putE ss bs ts refs = 0 ∧ putN ss bs ts refs = ss.findIdx freeS ∧ putS ss bs ts refs = ss.set (ss.findIdx freeS) ⟨refs, bs, ts⟩) := Lib.hid (fun h => by
      have e : putE ss bs ts refs = 0 := by unfold putE; rw [if_neg hE2, if_pos (by omega)]
      exact ⟨e, by unfold putN; rw [if_pos e], by unfold putS; rw [if_pos e]⟩)
    have HE4 : Hid (¬ ss.findIdx freeS < n → putE ss bs ts refs = 4 ∧ putN ss bs ts refs = 0 ∧ putS ss bs ts refs = []) := Lib.hid (fun h => by
      have e : putE ss bs ts refs = 4 := by unfold putE; rw [if_neg hE2, if_neg (by omega)]
      exact ⟨e, by unfold putN; rw [e]; rfl, by unfold putS; rw [e]; rfl⟩)
    have HLT := Lib.hid (fun (k : Nat) (s : Slo) (hs : ss[k]? = some s) => free_lt hs)
    have HAT := Lib.hid (fun (k : Nat) (s : Slo) (hs : ss[k]? = some s) => free_at hs)
    have HNL := Lib.hid hnl
    clear hz hs hb ht hbl htl hnl hsn hE2
    have HA : Hid (0 < n → ∃ b off, A = some ⟨b, off, none⟩ ∧ b < w.heap.size) := Lib.hid (fun h => HZ.out.open h)
    generalize putE ss bs ts refs = pE at *
    generalize putN ss bs ts refs = pN at *
    generalize putS ss bs ts refs = pS at *
    generalize ss.findIdx freeS = f at *
    go_enter Try.func26, Try.ntmps26
    go_wp2
    go_loopw [32] (fun i wr => ∃ k : Nat, k ≤ f ∧ i = .int .i64 k ∧ Hid (Below w.heap.size w wr)) (fun i _ => n - (intOf i).toNat)
    case atStart => exact ⟨0, by omega, rfl, Lib.hid (Below.refl _ _)⟩
    case round =>
      obtain ⟨k, hk, rfl, HW⟩ := hrel
      have hsz := HW.out.size
      by_cases hlt : k < n
      · obtain ⟨b, off, hAe, hb⟩ := HA.out (by omega)
        subst hAe
        obtain ⟨x, s, hx, hs, hr⟩ := HSs.out.get (i := k) (by rw [HNL.out]; exact hlt)
        have hcx := (HZ.out.below HW.out).at_ fS_len hx
        have c0 : wr.cell? ⟨b, off + k * 3, none⟩ = some (.int .i64 x.r) := hcx 0 _ rfl
        have c1 : wr.cell? ⟨b, off + k * 3 + 1, none⟩ = some (.slice x.bA x.bn x.bc) := hcx 1 _ rfl
        have c2 : wr.cell? ⟨b, off + k * 3 + 2, none⟩ = some (.slice x.tA x.tn x.tc) := hcx 2 _ rfl
        have hxr := hr.r
        clear hcx hx hr
        by_cases hkf : k < f
        · have h5 : 1 ≤ x.r := by rw [hxr]; exact HLT.out k s hs hkf
          clear hxr hs
          go_wp2
          go_roundw
          case rel => exact ⟨k + 1, by omega, by go_num, Lib.hid (HW.out.alloc hsz _)⟩
          case measure => simp [intOf]; omega
        · have hkf2 : k = f := by omega
          have h5 : x.r < 1 := by rw [hxr]; exact HAT.out k s hs hkf2
          have HEQ := Lib.hid (HE0.out (by omega))
          clear hxr hs
          subst hkf2
          have HW1 := Lib.hid (HW.out.alloc hsz (.cells #[.int .i64 x.r, .slice x.bA x.bn x.bc, .slice x.tA x.tn x.tc] 52))
          have hk0 : (0 : Int) ≤ (k : Int) := by omega
          have hkc : k ≤ c := by omega
          have HO0 : Hid (Os fS 3 52 ((wr.alloc (.cells #[.int .i64 x.r, .slice x.bA x.bn x.bc, .slice x.tA x.tn x.tc] 52)).alloc (.cells #[] 52)) (wr.heap.size + 1) (.slice (some ⟨wr.heap.size + 1, 0, none⟩) 0 0) ([] : List Slv)) := Lib.hid (by
            have h := Os.empty (f := fS) (sz := 3) (T := 52) (α := Slv) (wr.alloc (.cells #[.int .i64 x.r, .slice x.bA x.bn x.bc, .slice x.tA x.tn x.tc] 52))
            rwa [World.size_alloc] at h)
          have HW3 := Lib.hid (HW1.out.alloc HW1.out.size (.cells #[] 52))
          obtain ⟨tk, HTE, HTK, HRK⟩ : ∃ tk, Hid (tk = xs.take k) ∧ Hid (tk.length = k) ∧ Hid (Rw fS 3 ((wr.alloc (.cells #[.int .i64 x.r, .slice x.bA x.bn x.bc, .slice x.tA x.tn x.tc] 52)).alloc (.cells #[] 52)) w.heap.size (some ⟨b, off, none⟩) k tk) :=
            ⟨xs.take k, Lib.hid rfl, Lib.hid (by rw [List.length_take, HNL.out]; omega), Lib.hid ((HZ.out.take (by omega)).below HW3.out)⟩
          go_wp2_with (at_builtin; refine appends_S rfl _ _ rfl (wr.heap.size + 1) (.slice (some ⟨wr.heap.size + 1, 0, none⟩) 0 0) [] _ w.heap.size ⟨b, off, none⟩ k c (tk) rfl rfl HO0.out HRK.out (by simp) (by simp; omega) ?_)
          intro A5 c5 w5 ho5 hb5 _ _
          have HO5 := Lib.hid ho5
          have HW5 := Lib.hid (HW3.out.trans (hb5.mono (by omega)))
          have hs5 : wr.heap.size + 1 ≤ w5.heap.size := by have := hb5.size; simp at this; omega
          clear ho5 hb5 c0 c1 c2
          go_wp2_with (at_builtin; refine append_S rfl _ _ rfl (wr.heap.size + 1) (.slice A5 k c5) (tk) _ ⟨refs, bA, 64, bc, tA, 4, tc⟩ _ rfl rfl rfl HO5.out hs5 (by rw [HTK.out]; omega) ?_)
          intro g6 c6 w6 ho6 hb6 hg6 hc6 hm6
          rw [HTK.out] at ho6 hc6 ⊢
          have HO6 := Lib.hid ho6
          have HW6 := Lib.hid (HW5.out.trans (hb6.mono (by omega)))
          have hs6 : wr.heap.size + 1 ≤ w6.heap.size := by have := hb6.size; omega
          clear ho6 hb6
          have hk1 : (0 : Int) ≤ (k : Int) + 1 := by omega
          have hkn1 : (k : Int) + 1 ≤ (n : Int) := by omega
          have htn : ((k : Int) + 1).toNat = k + 1 := by omega
          have hdr : Hid (Rw fS 3 w6 w.heap.size (some ⟨b, off + (k + 1) * 3, none⟩) (n - (k + 1)) (xs.drop (k + 1))) := Lib.hid ((HZ.out.below HW6.out).drop (k + 1))
          by_cases hkc2 : k + 1 = c
          · have hm0 : n - (k + 1) = 0 := by omega
            have hdr2 : Hid (Rw fS 3 w6 w.heap.size (some ⟨b, off, none⟩) 0 (xs.drop (k + 1))) := Lib.hid ⟨by rw [hdr.out.1]; exact hm0, Nat.zero_le _, fun h => absurd h (Nat.lt_irrefl 0)⟩
            subst hkc2
            go_wp2_with (at_builtin; refine appends_S rfl _ _ rfl (wr.heap.size + 1) (.slice (some ⟨g6, 0, none⟩) (k + 1) c6) (tk ++ [⟨refs, bA, 64, bc, tA, 4, tc⟩]) _ w.heap.size ⟨b, off, none⟩ 0 0 (xs.drop (k + 1)) rfl rfl HO6.out hdr2.out hs6 (by rw [List.length_append, HTK.out, List.length_singleton]; omega) ?_)
            intro A7 c7 w7 ho7 hb7 hc7 hm7
            have hlen : tk.length + 1 = n := by rw [HTK.out]; omega
            rw [hlen] at ho7 hc7 ⊢
            clear hlen
            have HO7 := Lib.hid ho7
            have HW7 := Lib.hid (HW6.out.trans (hb7.mono (by omega)))
            clear ho7 hb7
            go_wp2
            go_ret3
            obtain ⟨e1, e2, e3⟩ := HEQ.out
            rw [e1, e2, e3]
            have hset : xs.take k ++ (⟨refs, bA, 64, bc, tA, 4, tc⟩ : Slv) :: xs.drop (k + 1) = xs.set k ⟨refs, bA, 64, bc, tA, 4, tc⟩ := by rw [List.set_eq_take_append_cons_drop, if_pos (by rw [HNL.out]; exact hlt)]
            have ho := HO7.out
            rw [HTE.out, hset] at ho
            obtain ⟨A8, c8, e8, _, _, hr8⟩ := ho.row fS_len
            rw [List.length_set, HNL.out] at e8 hr8
            injection e8 with e9 e10 e11
            subst e9
            exact ⟨A7, n, c7, hc7, rfl, _, hr8, (HSs.out.on HW7.out (Nat.le_refl _)).set ⟨rfl, HB.out.on HW7.out (Nat.le_refl _), HT.out.on HW7.out (Nat.le_refl _), (show (64 : Nat) ≤ 140737488351232 by decide), (show (4 : Nat) ≤ 17592186043904 by decide), (show I64 refs by unfold I64; omega)⟩, HW7.out⟩
          · have hkc3 : ((k + 1 : Nat) == c) = false := by simpa using hkc2
            go_wp2_with (at_builtin; refine appends_S rfl _ _ rfl (wr.heap.size + 1) (.slice (some ⟨g6, 0, none⟩) (k + 1) c6) (tk ++ [⟨refs, bA, 64, bc, tA, 4, tc⟩]) _ w.heap.size ⟨b, off + (k + 1) * 3, none⟩ (n - (k + 1)) (c - (k + 1)) (xs.drop (k + 1)) rfl rfl HO6.out hdr.out hs6 (by rw [List.length_append, HTK.out, List.length_singleton]; omega) ?_)
            intro A7 c7 w7 ho7 hb7 hc7 hm7
            have hlen : tk.length + 1 + (n - (k + 1)) = n := by rw [HTK.out]; omega
            rw [hlen] at ho7 hc7 ⊢
            clear hlen
            have HO7 := Lib.hid ho7
            have HW7 := Lib.hid (HW6.out.trans (hb7.mono (by omega)))
            clear ho7 hb7
            go_wp2
            go_ret3
            obtain ⟨e1, e2, e3⟩ := HEQ.out
            rw [e1, e2, e3]
            have hset : xs.take k ++ (⟨refs, bA, 64, bc, tA, 4, tc⟩ : Slv) :: xs.drop (k + 1) = xs.set k ⟨refs, bA, 64, bc, tA, 4, tc⟩ := by rw [List.set_eq_take_append_cons_drop, if_pos (by rw [HNL.out]; exact hlt)]
            have ho := HO7.out
            rw [HTE.out, hset] at ho
            obtain ⟨A8, c8, e8, _, _, hr8⟩ := ho.row fS_len
            rw [List.length_set, HNL.out] at e8 hr8
            injection e8 with e9 e10 e11
            subst e9
            exact ⟨A7, n, c7, hc7, rfl, _, hr8, (HSs.out.on HW7.out (Nat.le_refl _)).set ⟨rfl, HB.out.on HW7.out (Nat.le_refl _), HT.out.on HW7.out (Nat.le_refl _), (show (64 : Nat) ≤ 140737488351232 by decide), (show (4 : Nat) ≤ 17592186043904 by decide), (show I64 refs by unfold I64; omega)⟩, HW7.out⟩
      · have hkf : ¬ f < n := by omega
        have HEQ := Lib.hid (HE4.out hkf)
        go_wp2
        go_ret3
        obtain ⟨e1, e2, e3⟩ := HEQ.out
        rw [e1, e2, e3]
        exact ⟨none, 0, 0, Nat.le_refl _, rfl, slg_nil HW.out⟩

set_option maxHeartbeats 2000000 in
theorem lrefs_dead (A : Option Addr) (n c : Nat) (xs : List Slv) (ss : List Slo) (w : World) (B B' : Nat) (hz : Rw fS 3 w B A n xs) (hs : Sls w B' xs ss) (k by_ : Int) (h : deadAt ss k) :
    Calls Try.prog 28 #[.slice A n c, .int .i64 k, .int .i64 by_] w (TRefS 3 [] w) := by
  have hl : n = ss.length := by rw [← hz.1, hs.1]
  have FIN : Hid (TRefS 3 [] w (.returned (.tuple #[.slice none 0 0, .int .i64 3])) w) := Lib.hid ⟨none, 0, 0, rfl, slg_nil (Below.refl _ _)⟩
  rcases (show k < 0 ∨ 0 ≤ k by omega) with h0 | h0
  · clear hz hs h hl
    go_enter Try.func28, Try.ntmps28
    go_wp2
    go_ret2
    exact FIN.out
  · obtain ⟨i, rfl⟩ := Int.eq_ofNat_of_zero_le h0
    by_cases hi : i < n
    · obtain ⟨s, h1, h2⟩ : ∃ s, ss[i]? = some s ∧ s.r < 1 := by
        rcases h with h | h | ⟨s, h, h'⟩
        · omega
        · omega
        · exact ⟨s, by rwa [Int.toNat_natCast] at h, h'⟩
      obtain ⟨b, off, rfl, hb⟩ := hz.open (by omega)
      obtain ⟨x, s', hx, hs', hr⟩ := hs.get (i := i) (by rw [hz.1]; exact hi)
      rw [h1] at hs'; cases hs'
      have hc : w.cell? ⟨b, off + i * 3, none⟩ = some (.int .i64 x.r) := hz.at_ fS_len hx 0 _ rfl
      have hxr : x.r < 1 := by rw [hr.r]; omega
      have hin : (i : Int) < (n : Int) := by omega
      clear h1 hx hr hz hs hl h
      go_enter Try.func28, Try.ntmps28
      go_wp2
      go_ret2
      exact FIN.out
    · have hin : (n : Int) ≤ (i : Int) := by omega
      clear hz hs h hl
      go_enter Try.func28, Try.ntmps28
      go_wp2
      go_ret2
      exact FIN.out
set_option maxHeartbeats 2000000 in
theorem lrefs_full (A : Option Addr) (n c : Nat) (xs : List Slv) (ss : List Slo) (w : World) (B B' : Nat) (hz : Rw fS 3 w B A n xs) (hs : Sls w B' xs ss) (k : Int) (s : Slo) (h : liveAt ss k s) (h3 : 3 < s.r) :
    Calls Try.prog 28 #[.slice A n c, .int .i64 k, .int .i64 1] w (TRefS 4 [] w) := by
  have FIN : Hid (TRefS 4 [] w (.returned (.tuple #[.slice none 0 0, .int .i64 4])) w) := Lib.hid ⟨none, 0, 0, rfl, slg_nil (Below.refl _ _)⟩
  obtain ⟨h0, h1, h2⟩ := h
  obtain ⟨i, rfl⟩ := Int.eq_ofNat_of_zero_le h0
  rw [Int.toNat_natCast] at h1
  have hi : i < n := by have := (List.getElem?_eq_some_iff.1 h1).1; rw [← hz.1, hs.1]; exact this
  obtain ⟨b, off, rfl, hb⟩ := hz.open (by omega)
  obtain ⟨x, s', hx, hs', hr⟩ := hs.get (i := i) (by rw [hz.1]; exact hi)
  rw [h1] at hs'; cases hs'
  have hc : w.cell? ⟨b, off + i * 3, none⟩ = some (.int .i64 x.r) := hz.at_ fS_len hx 0 _ rfl
  have hxr : 3 < x.r := by rw [hr.r]; exact h3
  have hin : (i : Int) < (n : Int) := by omega
  clear h1 hx hr hz hs h2 h3
  go_enter Try.func28, Try.ntmps28
  go_wp2
  go_ret2
  exact FIN.out

set_option maxHeartbeats 2000000 in
set_option maxRecDepth 100000 in
theorem lrefs_up (A : Option Addr) (n c : Nat) (xs : List Slv) (ss : List Slo) (w : World) (hz : Rw fS 3 w w.heap.size A n xs) (hs : Sls w w.heap.size xs ss) (hbig : n ≤ 2513169434915) (k : Int) (s : Slo) (h : liveAt ss k s) (h3 : s.r ≤ 3) :
    Calls Try.prog 28 #[.slice A n c, .int .i64 k, .int .i64 (1)] w (TRefS 0 (ss.set k.toNat (bump s (1))) w) := by
  obtain ⟨h0, h1, h2⟩ := h
  obtain ⟨i, rfl⟩ := Int.eq_ofNat_of_zero_le h0
  rw [Int.toNat_natCast] at h1 ⊢
  have hi : i < n := by have := (List.getElem?_eq_some_iff.1 h1).1; rw [← hz.1, hs.1]; exact this
  obtain ⟨b, off, rfl, hb⟩ := hz.open (by omega)
  obtain ⟨x, s', hx, hs', hr⟩ := hs.get (i := i) (by rw [hz.1]; exact hi)
  rw [h1] at hs'; cases hs'
  have hc : w.cell? ⟨b, off + i * 3, none⟩ = some (.int .i64 x.r) := hz.at_ fS_len hx 0 _ rfl
  have hxr := hr.r
  have hI := hr.i
  unfold I64 at hI
  have hx0 : 0 < x.r := by omega
  have hx9 : x.r ≤ 9223372036854775807 := by omega
  have hx3 : x.r ≤ 3 := by omega
  have hin : (i : Int) < (n : Int) := by omega
  have HR := Lib.hid hr
  have HZ := Lib.hid hz
  have HSs := Lib.hid hs
  have HXI := Lib.hid hx
  have HXR := Lib.hid hxr
  have HNL := Lib.hid hz.1
  clear h1 hx hr hz hs h2 hxr hI
  have HO0 : Hid (Os fS 3 52 (w.alloc (.cells #[] 52)) w.heap.size (.slice (some ⟨w.heap.size, 0, none⟩) 0 0) ([] : List Slv)) := Lib.hid (Os.empty w)
  have HW0 := Lib.hid ((Below.refl w.heap.size w).alloc (Nat.le_refl _) (.cells #[] 52))
  cases hq : (x.r + 1 == 0) with
  | true =>
    have HQ := Lib.hid hq
    simp at hq; omega
  | false =>
    have HQ := Lib.hid hq
    go_enter Try.func28, Try.ntmps28
    go_wp2_with (at_builtin; refine appends_S rfl _ _ rfl w.heap.size (.slice (some ⟨w.heap.size, 0, none⟩) 0 0) [] _ w.heap.size ⟨b, off, none⟩ n c xs rfl rfl HO0.out (HZ.out.below HW0.out) HW0.out.size (by simp; omega) ?_)
    intro A5 c5 w5 ho5 hb5 hc5 hm5
    obtain ⟨g, c6, e6, hg, _, _⟩ := own_form ho5 (by rw [HNL.out]; omega)
    rw [HNL.out] at e6
    injection e6 with e7 e8 e9
    subst e7
    have HO5 := Lib.hid ho5
    have HW5 := Lib.hid (HW0.out.trans hb5)
    have hco := ho5.cells fS_len HXI.out
    have o0 : w5.cell? ⟨g, i * 3, none⟩ = some (.int .i64 x.r) := (hco 0 _ rfl).1
    have f0 : w5.frozen? ⟨g, i * 3, none⟩ = false := (hco 0 _ rfl).2
    have o1 : w5.cell? ⟨g, i * 3 + 1, none⟩ = some (.slice x.bA x.bn x.bc) := (hco 1 _ rfl).1
    have f1 : w5.frozen? ⟨g, i * 3 + 1, none⟩ = false := (hco 1 _ rfl).2
    have o2 : w5.cell? ⟨g, i * 3 + 2, none⟩ = some (.slice x.tA x.tn x.tc) := (hco 2 _ rfl).1
    have f2 : w5.frozen? ⟨g, i * 3 + 2, none⟩ = false := (hco 2 _ rfl).2
    clear ho5 hb5 hco hc
    go_wp2
    go_ret2
    have ho := HO5.out.set_first fS_len (by decide) HXI.out (y := ⟨x.r + 1, x.bA, x.bn, x.bc, x.tA, x.tn, x.tc⟩) (u := .int .i64 (x.r + 1)) (tl := [.slice x.bA x.bn x.bc, .slice x.tA x.tn x.tc]) rfl (fun j v h => h)
    have hw := HW5.out.setCell (p := ⟨g, i * 3, none⟩) hg (.int .i64 (x.r + 1))
    obtain ⟨A8, c8, e8, _, _, hr8⟩ := ho.row fS_len
    rw [List.length_set, HNL.out] at e8 hr8
    injection e8 with e9 e10 e11
    subst e9
    have h := HR.out.on hw (Nat.le_refl _)
    refine ⟨some ⟨g, 0, none⟩, n, c6, rfl, _, hr8, (HSs.out.on hw (Nat.le_refl _)).set ?_, hw⟩
    unfold bump
    rw [if_neg (by have := HXR.out; have := HQ.out; simp at this; omega)]
    exact ⟨by show x.r + 1 = s.r + (1); rw [HXR.out], h.b, h.t, h.bn, h.tn, by have := HXR.out; show I64 (s.r + (1)); unfold I64; omega⟩

set_option maxHeartbeats 2000000 in
set_option maxRecDepth 100000 in
theorem lrefs_down (A : Option Addr) (n c : Nat) (xs : List Slv) (ss : List Slo) (w : World) (hz : Rw fS 3 w w.heap.size A n xs) (hs : Sls w w.heap.size xs ss) (hbig : n ≤ 2513169434915) (k : Int) (s : Slo) (h : liveAt ss k s) :
    Calls Try.prog 28 #[.slice A n c, .int .i64 k, .int .i64 (-1)] w (TRefS 0 (ss.set k.toNat (bump s (-1))) w) := by
  obtain ⟨h0, h1, h2⟩ := h
  obtain ⟨i, rfl⟩ := Int.eq_ofNat_of_zero_le h0
  rw [Int.toNat_natCast] at h1 ⊢
  have hi : i < n := by have := (List.getElem?_eq_some_iff.1 h1).1; rw [← hz.1, hs.1]; exact this
  obtain ⟨b, off, rfl, hb⟩ := hz.open (by omega)
  obtain ⟨x, s', hx, hs', hr⟩ := hs.get (i := i) (by rw [hz.1]; exact hi)
  rw [h1] at hs'; cases hs'
  have hc : w.cell? ⟨b, off + i * 3, none⟩ = some (.int .i64 x.r) := hz.at_ fS_len hx 0 _ rfl
  have hxr := hr.r
  have hI := hr.i
  unfold I64 at hI
  have hx0 : 0 < x.r := by omega
  have hx9 : x.r ≤ 9223372036854775807 := by omega
  have hin : (i : Int) < (n : Int) := by omega
  have HR := Lib.hid hr
  have HZ := Lib.hid hz
  have HSs := Lib.hid hs
  have HXI := Lib.hid hx
  have HXR := Lib.hid hxr
  have HNL := Lib.hid hz.1
  clear h1 hx hr hz hs h2 hxr hI
  have HO0 : Hid (Os fS 3 52 (w.alloc (.cells #[] 52)) w.heap.size (.slice (some ⟨w.heap.size, 0, none⟩) 0 0) ([] : List Slv)) := Lib.hid (Os.empty w)
  have HW0 := Lib.hid ((Below.refl w.heap.size w).alloc (Nat.le_refl _) (.cells #[] 52))
  cases hq : (x.r + -1 == 0) with
  | true =>
    have HQ := Lib.hid hq
    go_enter Try.func28, Try.ntmps28
    go_wp2_with (at_builtin; refine appends_S rfl _ _ rfl w.heap.size (.slice (some ⟨w.heap.size, 0, none⟩) 0 0) [] _ w.heap.size ⟨b, off, none⟩ n c xs rfl rfl HO0.out (HZ.out.below HW0.out) HW0.out.size (by simp; omega) ?_)
    intro A5 c5 w5 ho5 hb5 hc5 hm5
    obtain ⟨g, c6, e6, hg, _, _⟩ := own_form ho5 (by rw [HNL.out]; omega)
    rw [HNL.out] at e6
    injection e6 with e7 e8 e9
    subst e7
    have HO5 := Lib.hid ho5
    have HW5 := Lib.hid (HW0.out.trans hb5)
    have hco := ho5.cells fS_len HXI.out
    have o0 : w5.cell? ⟨g, i * 3, none⟩ = some (.int .i64 x.r) := (hco 0 _ rfl).1
    have f0 : w5.frozen? ⟨g, i * 3, none⟩ = false := (hco 0 _ rfl).2
    have o1 : w5.cell? ⟨g, i * 3 + 1, none⟩ = some (.slice x.bA x.bn x.bc) := (hco 1 _ rfl).1
    have f1 : w5.frozen? ⟨g, i * 3 + 1, none⟩ = false := (hco 1 _ rfl).2
    have o2 : w5.cell? ⟨g, i * 3 + 2, none⟩ = some (.slice x.tA x.tn x.tc) := (hco 2 _ rfl).1
    have f2 : w5.frozen? ⟨g, i * 3 + 2, none⟩ = false := (hco 2 _ rfl).2
    clear ho5 hb5 hco hc
    go_wp2
    go_ret2
    have ho := HO5.out.set_first fS_len (by decide) HXI.out (y := ⟨x.r + -1, x.bA, x.bn, x.bc, x.tA, x.tn, x.tc⟩) (u := .int .i64 (x.r + -1)) (tl := [.slice x.bA x.bn x.bc, .slice x.tA x.tn x.tc]) rfl (fun j v h => h)
    have hw := HW5.out.setCell (p := ⟨g, i * 3, none⟩) hg (.int .i64 (x.r + -1))
    have ho2 := ho.set fS_len (by decide) (i := i) (by rw [List.length_set, HNL.out]; exact hi) zSv
    rw [List.set_set] at ho2
    have hw2 := below_setCells hg (fS zSv) (i * 3) _ hw
    obtain ⟨A8, c8, e8, _, _, hr8⟩ := ho2.row fS_len
    rw [List.length_set, HNL.out] at e8 hr8
    injection e8 with e9 e10 e11
    subst e9
    refine ⟨some ⟨g, 0, none⟩, n, c6, rfl, _, hr8, (HSs.out.on hw2 (Nat.le_refl _)).set ?_, hw2⟩
    unfold bump
    rw [if_pos (by have := HXR.out; have := HQ.out; simp at this; omega)]
    exact zS_R _ _
  | false =>
    have HQ := Lib.hid hq
    go_enter Try.func28, Try.ntmps28
    go_wp2_with (at_builtin; refine appends_S rfl _ _ rfl w.heap.size (.slice (some ⟨w.heap.size, 0, none⟩) 0 0) [] _ w.heap.size ⟨b, off, none⟩ n c xs rfl rfl HO0.out (HZ.out.below HW0.out) HW0.out.size (by simp; omega) ?_)
    intro A5 c5 w5 ho5 hb5 hc5 hm5
    obtain ⟨g, c6, e6, hg, _, _⟩ := own_form ho5 (by rw [HNL.out]; omega)
    rw [HNL.out] at e6
    injection e6 with e7 e8 e9
    subst e7
    have HO5 := Lib.hid ho5
    have HW5 := Lib.hid (HW0.out.trans hb5)
    have hco := ho5.cells fS_len HXI.out
    have o0 : w5.cell? ⟨g, i * 3, none⟩ = some (.int .i64 x.r) := (hco 0 _ rfl).1
    have f0 : w5.frozen? ⟨g, i * 3, none⟩ = false := (hco 0 _ rfl).2
    have o1 : w5.cell? ⟨g, i * 3 + 1, none⟩ = some (.slice x.bA x.bn x.bc) := (hco 1 _ rfl).1
    have f1 : w5.frozen? ⟨g, i * 3 + 1, none⟩ = false := (hco 1 _ rfl).2
    have o2 : w5.cell? ⟨g, i * 3 + 2, none⟩ = some (.slice x.tA x.tn x.tc) := (hco 2 _ rfl).1
    have f2 : w5.frozen? ⟨g, i * 3 + 2, none⟩ = false := (hco 2 _ rfl).2
    clear ho5 hb5 hco hc
    go_wp2
    go_ret2
    have ho := HO5.out.set_first fS_len (by decide) HXI.out (y := ⟨x.r + -1, x.bA, x.bn, x.bc, x.tA, x.tn, x.tc⟩) (u := .int .i64 (x.r + -1)) (tl := [.slice x.bA x.bn x.bc, .slice x.tA x.tn x.tc]) rfl (fun j v h => h)
    have hw := HW5.out.setCell (p := ⟨g, i * 3, none⟩) hg (.int .i64 (x.r + -1))
    obtain ⟨A8, c8, e8, _, _, hr8⟩ := ho.row fS_len
    rw [List.length_set, HNL.out] at e8 hr8
    injection e8 with e9 e10 e11
    subst e9
    have h := HR.out.on hw (Nat.le_refl _)
    refine ⟨some ⟨g, 0, none⟩, n, c6, rfl, _, hr8, (HSs.out.on hw (Nat.le_refl _)).set ?_, hw⟩
    unfold bump
    rw [if_neg (by have := HXR.out; have := HQ.out; simp at this; omega)]
    exact ⟨by show x.r + -1 = s.r + (-1); rw [HXR.out], h.b, h.t, h.bn, h.tn, by have := HXR.out; show I64 (s.r + (-1)); unfold I64; omega⟩
end Go.Proofs.Ytfhcjainhpjdfaa
