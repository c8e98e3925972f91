/- The document's KNext: its walk. -/
import Derived.Test.YtidfngplhjegpaaClkK
namespace Go.Proofs.Ytidfngplhjegpaa
open Go.RowKit Go.Sort
set_option linter.unusedVariables false

set_option maxHeartbeats 2000000 in
theorem knext_e1 (A1 A2 : Option Addr) (n1 c1 n2 c2 : Nat) (hand : Int) (w : World) (h : n1 ≠ n2) (m1 : n1 ≤ 140737488355328) (m2 : n2 ≤ 140737488355328) :
    Calls Try.prog 31 #[.int .i64 hand, .slice A1 n1 c1, .slice A2 n2 c2] w (ErrP 4 1 w) := by
  have h1 : ((n2 : Int) != (n1 : Int)) = true := by rw [bne_iff_ne]; omega
  have h2 : ((n2 : Int) == (n1 : Int)) = false := by simp; omega
  clear h
  go_enter Try.func31, Try.ntmps31
  go_wp2
  all_goals exact bodyPost_ret (v := .tuple #[.int .i64 0, .int .i64 0, .slice none 0 0, .int .i64 1]) (by simp [results, Try.results31, go_sem]) rfl ⟨rfl, rfl⟩
set_option maxHeartbeats 2000000 in
theorem knext_e2 (A1 A2 : Option Addr) (n c1 c2 : Nat) (hand : Int) (w : World) (h : hand < 0 ∨ (0 ≤ hand ∧ (n : Int) - 1 < hand)) (m1 : n ≤ 140737488355328) :
    Calls Try.prog 31 #[.int .i64 hand, .slice A1 n c1, .slice A2 n c2] w (ErrP 4 2 w) := by
  rcases h with h | ⟨h, h'⟩
  all_goals
    go_enter Try.func31, Try.ntmps31
    go_wp2
    all_goals exact bodyPost_ret (v := .tuple #[.int .i64 0, .int .i64 0, .slice none 0 0, .int .i64 2]) (by simp [results, Try.results31, go_sem]) rfl ⟨rfl, rfl⟩

set_option maxHeartbeats 8000000 in
theorem knext_e0 (A1 A2 : Option Addr) (n c1 c2 h : Nat) (may used : List Bool) (w : World) (hm : Rw fB 1 w w.heap.size A1 n may) (hu : Rw fB 1 w w.heap.size A2 n used) (hh : h < n) (m1 : n ≤ 1048576) :
    Calls Try.prog 31 #[.int .i64 h, .slice A1 n c1, .slice A2 n c2] w (TNext 4 h may used w) := by
  have hml := hm.1
  have hul := hu.1
  obtain ⟨b, off, rfl, hb1⟩ := rwB_open hm (by omega)
  obtain ⟨b2, off2, rfl, hb2⟩ := rwB_open hu (by omega)
  have HML := Lib.hid hml
  have HUL := Lib.hid hul
  have HM := Lib.hid hm
  have HU := Lib.hid hu
  obtain ⟨i0, hi, hz0, hz1, hz2⟩ := info_parts intInfo
  have hfh : ¬ ((n : Int) - 1 < (h : Int)) := by omega
  have hrk0 := rk_0 hh
  have HR0 := Lib.hid hrk0
  clear hm hu hml hul hrk0
  go_enter Try.func31, Try.ntmps31
  go_wp2
  go_loopw [11, 36] (fun v i wr => ∃ k : Nat, k ≤ n ∧ i = .int .i64 k ∧ wr.ownsRow w.heap.size 3 1 v (inK may h n k).length ((inK may h n k).flatMap fN) ∧ Below w.heap.size w wr) (fun _ i _ => n - (intOf i).toNat)
  case atStart => exact ⟨0, by omega, rfl, by simpa [inK] using World.ownsRow_nil _ _ _ _, Below.refl _ _⟩
  case round =>
    obtain ⟨k, hk, rfl, hown, hbw⟩ := hrel
    have HO := Lib.hid hown
    clear hown
    by_cases hlt : k < n
    · have hl : rk h n k < n := rk_lt k (by omega)
      have hcm : wr.cell? ⟨b, off + rk h n k, none⟩ = some (.bool (mb may (rk h n k))) := rwB_at (HM.out.below hbw) hl
      have hrm : ((h : Int) + (k : Int)).tmod (n : Int) = ((rk h n k : Nat) : Int) := by rw [Int.tmod_eq_emod_of_nonneg (by omega)]; rfl
      have hrm2 : ((h : Int) + (k : Int)) % (n : Int) = ((rk h n k : Nat) : Int) := rfl
      have HS := Lib.hid (inK_succ (may := may) (h := h) (n := n) k)
      have hln := inK_len (may := may) (h := h) (n := n) k
      generalize rk h n k = r at *
      by_cases hmr : mb may r = true
      · rw [hmr] at hcm
        rw [if_pos hmr] at HS
        clear hmr
        go_wp2_with (at_builtin; refine wpList_append_own _ rfl _ _ 44 rfl w.heap.size 3 i0 (.int .i64 0) 1 8 Try.underlying44 hi hz0 hz1 hz2 rfl (by decide) _ _ _ rfl (HO.out.alloc _) ⟨wr.heap.size, 0, none⟩ 1 1 [.int .i64 (r : Int)] rfl ?c1 ?c2 ?c3 ?c4 ?c5 ?c6 ?_)
        try (case c1 => rfl)
        case c2 =>
          intro j u hj
          have hj0 : j = 0 := by
            have := (List.getElem?_eq_some_iff.1 hj).1
            simp at this
            exact this
          subst hj0
          have hu : u = .int .i64 (r : Int) := Option.some.inj hj.symm
          subst hu
          rw [Addr.add_zero_lit, World.cell?_alloc_at _ _ _ _ rfl]
          rfl
        case c3 => first | rfl | (intro u hu; simp at hu; subst hu; rfl)
        case c4 => unfold maxLen; omega
        case c5 => omega
        case c6 => have := hbw.size; simp; omega
        intro v' w3 hown hgrow _
        have HO3 := Lib.hid hown
        clear hown
        go_wp2
        go_roundw
        case rel => exact ⟨k + 1, by omega, by go_num, by rw [HS.out, List.length_append, List.flatMap_append]; exact HO3.out, (hbw.alloc hbw.size _).grown hgrow (by have := hbw.size; simp; omega) (own_from HO.out)⟩
        case measure => simp [intOf]; omega
      · rw [Bool.not_eq_true] at hmr
        rw [hmr] at hcm
        rw [if_neg (by rw [hmr]; decide)] at HS
        clear hmr
        go_wp2
        go_roundw
        case rel => exact ⟨k + 1, by omega, by go_num, by rw [HS.out]; exact HO.out, hbw⟩
        case measure => simp [intOf]; omega
    · have hkn : k = n := by omega
      subst hkn
      obtain ⟨Ai, ci, e9, hoi⟩ := Ow.of_row fN_len (by decide) HO.out
      by_cases hmay : firstT may < may.length
      · have hMay : kMay may h k < k := kMay_lt hh HML.out hmay
        have hE : nextE h may used = 0 := nextE_0.2 ⟨by rw [HUL.out, HML.out], by omega, by rw [HML.out]; omega, hmay⟩
        have hf := in_first hMay
        have hSL := seen_le (may := may) (used := used) (h := h) (n := k)
        have HUS := Lib.hid (fun i hi => seen_used (may := may) (used := used) (h := h) (n := k) (i := i) hi)
        have HHI := Lib.hid (fun g => seen_hit (may := may) (used := used) (h := h) (n := k) g)
        have HAL := Lib.hid (fun g => seen_all (may := may) (used := used) (h := h) (n := k) g)
        have HOS := Lib.hid (out_seen (may := may) (used := used) hMay)
        have HLT : Hid (∀ i, i < (inK may h k k).length → (inK may h k k).getD i 0 < k) := Lib.hid (fun i hi => by
          obtain ⟨j, _, e, _⟩ := inK_mem k (show (inK may h k k).getD i 0 ∈ inK may h k k by simp [List.getD, hi])
          rw [← e]; exact rk_lt _ (by omega))
        have HVI : Hid (victim may used h k = if kHit may used h k < k then rk h k (kHit may used h k) else rk h k (kMay may h k)) := Lib.hid (by
          unfold victim kTot
          split
          · rfl
          · rw [rk_add])
        have HE := Lib.hid hE
        have HFI := Lib.hid hf.1
        have hL0 : 0 < (inK may h k k).length := hf.2
        have hLk := inK_len (may := may) (h := h) (n := k) k
        have HLL := Lib.hid hoi.1
        obtain ⟨gi, curi, ei, hgi, _, _⟩ := hoi.2.2.2 hL0
        subst ei
        have hroi := hoi.row
        have hc0 := rwN_at hroi hL0
        rw [hf.1] at hc0
        have HI := Lib.hid hoi
        have hgl : gi < wr.heap.size := by
          obtain ⟨b', _, e', hb', _⟩ := hroi.2.2 hL0
          injection e' with e'; injection e' with e' _; omega
        have hicap := hoi.2.1
        have hicm := hoi.2.2.1
        clear hmay hE hf hoi hroi
        generalize hil : inK may h k k = il at *
        have HIL := Lib.hid hil
        clear hil
        generalize hLe : il.length = L at *
        have HLE := Lib.hid hLe
        clear hLe
        rw [Nat.zero_add] at hc0
        go_wp2
        go_loop [14, 15, 63] (fun vi se i => ∃ j : Nat, j ≤ seenF may used h k ∧ i = .int .i64 j ∧ vi = .int .i64 (rk h k (kMay may h k) : Nat) ∧ se = .int .i64 L) (fun _ _ i => L - (intOf i).toNat)
        case atStart => exact ⟨0, by omega, rfl, rfl, rfl⟩
        case round =>
          obtain ⟨j, hj, rfl, rfl, rfl⟩ := hrel
          by_cases hjs : j < seenF may used h k
          · have hjL : j < L := by omega
            have hcj := rwN_at HI.out.row (i := j) (by omega)
            rw [Nat.zero_add] at hcj
            have hxl := HLT.out j hjL
            have hcu := rwB_at (HU.out.below hbw) hxl
            have hux := HUS.out j hjs
            unfold mb at hux
            rw [hux] at hcu
            clear hux
            generalize il.getD j 0 = x at *
            go_wp2
            go_round
            case rel => exact ⟨j + 1, by omega, by go_num, rfl, rfl⟩
            case measure => simp [intOf]; omega
          · have hjS : j = seenF may used h k := by omega
            have HJS := Lib.hid hjS
            clear hjS
            have HMV : Hid (∃ v : Nat, victim may used h k = v) := Lib.hid ⟨_, rfl⟩
            by_cases hg : kHit may used h k < k
            · obtain ⟨h7, h8⟩ := HHI.out hg
              have hjL : j < L := by have := HJS.out; omega
              have hcj := rwN_at HI.out.row (i := j) (by omega)
              rw [Nat.zero_add] at hcj
              have hxv : il.getD j 0 = victim may used h k := by rw [HVI.out, if_pos hg, HJS.out]; exact h7
              have hxl := HLT.out j hjL
              have hcu := rwB_at (HU.out.below hbw) hxl
              have hux : used.getD (il.getD j 0) false = false := by
                rw [HJS.out, h7]; exact (kHit_yes hg).2
              rw [hux] at hcu
              have HXV := Lib.hid hxv
              clear hux hxv h7 h8
              generalize il.getD j 0 = x at *
              obtain ⟨iB, hiB, hzB0, hzB1, hzB2⟩ := info_parts boolInfo
              obtain ⟨hcl, hcc⟩ := Rw.cells fB_len (by decide) (HU.out.below hbw)
              have HCC := Lib.hid hcc
              have HCL := Lib.hid hcl
              clear hcc hcl
              go_wp2_with (at_builtin; refine wpList_append_own _ rfl _ _ 45 rfl wr.heap.size 4 iB (.bool false) 1 1 Try.underlying45 hiB hzB0 hzB1 hzB2 rfl (by decide) _ _ _ rfl (World.ownsRow_made wr #[] 0 (Nat.le_refl _) (Nat.zero_le _) rfl) ⟨b2, off2, none⟩ k c2 (used.flatMap fB) rfl ?q1a ?q2a ?q3a ?q4a ?q5a ?q6a ?_)
              case q1a => first | exact HCL.out | (have h9 := HCL.out; rw [List.length_flatMap] at h9; simpa using h9)
              case q2a => intro i u hiu; have h9 := HCC.out i u hiu; rw [Addr.add_lit] at h9; exact Lib.cell?_alloc_some _ h9
              case q3a => intro u hu; first | (rcases hu with ⟨_, hy⟩ | ⟨_, hy⟩ <;> (simp [fB] at hy; subst hy; rfl)) | (obtain ⟨y, _, hy⟩ := List.mem_flatMap.1 hu; simp [fB] at hy; subst hy; rfl)
              case q4a => unfold maxLen; omega
              case q5a => omega
              try (case q6a => simp)
              intro v' w3 hown hgrow hnil
              obtain ⟨Ao, co, eo, hoo⟩ := Ow.of_row fB_len (by decide) hown
              subst eo
              obtain ⟨go, curo, eo, hgo, _, _⟩ := hoo.2.2.2 (by omega)
              subst eo
              have hb3 : Below wr.heap.size wr w3 := ((Below.refl _ wr).alloc (Nat.le_refl _) _).grown hgrow (by simp) (by intro k hk; simp [Value.ownBlock] at hk; omega)
              have HO4 := Lib.hid hoo
              clear hown hoo hnil hgrow
              have hz3 := hb3.size
              obtain ⟨wo, hwo⟩ : ∃ wo : World, wo = wr := ⟨_, rfl⟩
              subst hwo
              have hSk : j ≤ L := by have := HJS.out; omega
              go_wp2
              go_loopw [83] (fun i wr => ∃ t : Nat, t ≤ j ∧ i = .int .i64 t ∧ Ow fB 1 4 wr wo.heap.size (some ⟨go, 0, none⟩) k co (clearL used (il.take t)) ∧ Below wo.heap.size wo wr) (fun i _ => j - (intOf i).toNat)
              case atStart => exact ⟨0, by omega, rfl, by rw [List.take_zero]; exact HO4.out, hb3⟩
              case round =>
                obtain ⟨t, ht, rfl, how, hbq⟩ := hrel
                have hzq := hbq.size
                by_cases hts : t < j
                · have htL : t < L := by omega
                  have hct := rwN_at (HI.out.row.below hbq) (i := t) htL
                  rw [Nat.zero_add] at hct
                  have hyl := HLT.out t htL
                  have hclr := clear_next (used := used) (l := il) (i := t) (by rw [HLE.out]; exact htL)
                  have hlq : (clearL used (il.take t)).length = k := by rw [clear_len, HUL.out]
                  obtain ⟨bq, hge⟩ : ∃ bq, (clearL used (il.take t))[il.getD t 0]? = some bq := ⟨_, List.getElem?_eq_getElem (by rw [hlq]; exact hyl)⟩
                  have hco := rwB_at how.row hyl
                  rw [Nat.zero_add] at hco
                  have hfz : wr.frozen? ⟨go, il.getD t 0, none⟩ = false := by
                    obtain ⟨g', cur, e, _, hh', _⟩ := how.2.2.2 (by omega)
                    injection e with e; injection e with e; subst e
                    exact blk_free hh' _
                  have HCN := Lib.hid hclr
                  have HWQ := Lib.hid how
                  have HGE := Lib.hid hge
                  clear hclr how hlq hge
                  generalize il.getD t 0 = y at *
                  go_wp2
                  go_roundw
                  case rel => exact ⟨t + 1, by omega, by go_num, by rw [HCN.out]; exact Ow.set1 (y := false) (fv := Value.bool) HWQ.out HGE.out, hbq.setCell (by assumption) _⟩
                  case measure => simp [intOf]; omega
                · have htj : t = j := by omega
                  subst htj
                  have HWQ := Lib.hid how
                  clear how
                  go_wp2
                  go_quiet (fail)
                  go_wp2
                  refine bodyPost_ret (v := .tuple #[.int .i64 (x : Int), .int .i64 (((x : Int) + 1) % (k : Int)), .slice (some ⟨go, 0, none⟩) k co, .int .i64 0]) (by simp [results, Try.results31, go_sem]) rfl ⟨some ⟨go, 0, none⟩, k, co, ?_, ?_, ?_⟩
                  · unfold nextV nextH; rw [if_pos HE.out, if_pos HE.out, HE.out, Int.toNat_natCast, HML.out, ← HXV.out]; simp
                  · unfold nextU; rw [if_pos HE.out, Int.toNat_natCast, HML.out, ← HOS.out]
                    have h9 := HWQ.out.rebase (B := w.heap.size) hbw.size
                    first
                      | (rw [HJS.out] at h9; exact h9.below (below_drewN _ _ _) (Nat.le_refl _))
                      | (rw [← HJS.out]; exact h9.below (below_drewN _ _ _) (Nat.le_refl _))
                  · exact hbw.trans ((hbq.mono hbw.size).trans (below_drewN _ _ _))
            · have hjL : j = L := by have := HJS.out; have := HAL.out hg; omega
              have hxv : rk h k (kMay may h k) = victim may used h k := by rw [HVI.out, if_neg hg]
              have hxl : rk h k (kMay may h k) < k := rk_lt _ (by omega)
              have HXV := Lib.hid hxv
              clear hxv
              generalize rk h k (kMay may h k) = x at *
              subst hjL
              obtain ⟨iB, hiB, hzB0, hzB1, hzB2⟩ := info_parts boolInfo
              obtain ⟨hcl, hcc⟩ := Rw.cells fB_len (by decide) (HU.out.below hbw)
              have HCC := Lib.hid hcc
              have HCL := Lib.hid hcl
              clear hcc hcl
              go_wp2_with (at_builtin; refine wpList_append_own _ rfl _ _ 45 rfl wr.heap.size 4 iB (.bool false) 1 1 Try.underlying45 hiB hzB0 hzB1 hzB2 rfl (by decide) _ _ _ rfl (World.ownsRow_made wr #[] 0 (Nat.le_refl _) (Nat.zero_le _) rfl) ⟨b2, off2, none⟩ k c2 (used.flatMap fB) rfl ?q1b ?q2b ?q3b ?q4b ?q5b ?q6b ?_)
              case q1b => first | exact HCL.out | (have h9 := HCL.out; rw [List.length_flatMap] at h9; simpa using h9)
              case q2b => intro i u hiu; have h9 := HCC.out i u hiu; rw [Addr.add_lit] at h9; exact Lib.cell?_alloc_some _ h9
              case q3b => intro u hu; first | (rcases hu with ⟨_, hy⟩ | ⟨_, hy⟩ <;> (simp [fB] at hy; subst hy; rfl)) | (obtain ⟨y, _, hy⟩ := List.mem_flatMap.1 hu; simp [fB] at hy; subst hy; rfl)
              case q4b => unfold maxLen; omega
              case q5b => omega
              try (case q6b => simp)
              intro v' w3 hown hgrow hnil
              obtain ⟨Ao, co, eo, hoo⟩ := Ow.of_row fB_len (by decide) hown
              subst eo
              obtain ⟨go, curo, eo, hgo, _, _⟩ := hoo.2.2.2 (by omega)
              subst eo
              have hb3 : Below wr.heap.size wr w3 := ((Below.refl _ wr).alloc (Nat.le_refl _) _).grown hgrow (by simp) (by intro k hk; simp [Value.ownBlock] at hk; omega)
              have HO4 := Lib.hid hoo
              clear hown hoo hnil hgrow
              have hz3 := hb3.size
              obtain ⟨wo, hwo⟩ : ∃ wo : World, wo = wr := ⟨_, rfl⟩
              subst hwo
              have hSk : j ≤ j := by have := HJS.out; omega
              go_wp2
              go_loopw [83] (fun i wr => ∃ t : Nat, t ≤ j ∧ i = .int .i64 t ∧ Ow fB 1 4 wr wo.heap.size (some ⟨go, 0, none⟩) k co (clearL used (il.take t)) ∧ Below wo.heap.size wo wr) (fun i _ => j - (intOf i).toNat)
              case atStart => exact ⟨0, by omega, rfl, by rw [List.take_zero]; exact HO4.out, hb3⟩
              case round =>
                obtain ⟨t, ht, rfl, how, hbq⟩ := hrel
                have hzq := hbq.size
                by_cases hts : t < j
                · have htL : t < j := by omega
                  have hct := rwN_at (HI.out.row.below hbq) (i := t) htL
                  rw [Nat.zero_add] at hct
                  have hyl := HLT.out t htL
                  have hclr := clear_next (used := used) (l := il) (i := t) (by rw [HLE.out]; exact htL)
                  have hlq : (clearL used (il.take t)).length = k := by rw [clear_len, HUL.out]
                  obtain ⟨bq, hge⟩ : ∃ bq, (clearL used (il.take t))[il.getD t 0]? = some bq := ⟨_, List.getElem?_eq_getElem (by rw [hlq]; exact hyl)⟩
                  have hco := rwB_at how.row hyl
                  rw [Nat.zero_add] at hco
                  have hfz : wr.frozen? ⟨go, il.getD t 0, none⟩ = false := by
                    obtain ⟨g', cur, e, _, hh', _⟩ := how.2.2.2 (by omega)
                    injection e with e; injection e with e; subst e
                    exact blk_free hh' _
                  have HCN := Lib.hid hclr
                  have HWQ := Lib.hid how
                  have HGE := Lib.hid hge
                  clear hclr how hlq hge
                  generalize il.getD t 0 = y at *
                  go_wp2
                  go_roundw
                  case rel => exact ⟨t + 1, by omega, by go_num, by rw [HCN.out]; exact Ow.set1 (y := false) (fv := Value.bool) HWQ.out HGE.out, hbq.setCell (by assumption) _⟩
                  case measure => simp [intOf]; omega
                · have htj : t = j := by omega
                  subst htj
                  have HWQ := Lib.hid how
                  clear how
                  go_wp2
                  go_quiet (fail)
                  go_wp2
                  refine bodyPost_ret (v := .tuple #[.int .i64 (x : Int), .int .i64 (((x : Int) + 1) % (k : Int)), .slice (some ⟨go, 0, none⟩) k co, .int .i64 0]) (by simp [results, Try.results31, go_sem]) rfl ⟨some ⟨go, 0, none⟩, k, co, ?_, ?_, ?_⟩
                  · unfold nextV nextH; rw [if_pos HE.out, if_pos HE.out, HE.out, Int.toNat_natCast, HML.out, ← HXV.out]; simp
                  · unfold nextU; rw [if_pos HE.out, Int.toNat_natCast, HML.out, ← HOS.out]
                    have h9 := HWQ.out.rebase (B := w.heap.size) hbw.size
                    first
                      | (rw [HJS.out] at h9; exact h9.below (below_drewN _ _ _) (Nat.le_refl _))
                      | (rw [← HJS.out]; exact h9.below (below_drewN _ _ _) (Nat.le_refl _))
                  · exact hbw.trans ((hbq.mono hbw.size).trans (below_drewN _ _ _))
      · have hE : nextE h may used = 3 := by unfold nextE; rw [HUL.out, HML.out, if_neg (by omega), if_neg (by omega), if_neg (by rw [HML.out] at hmay; exact hmay)]
        have hin : inK may h k k = [] := inK_none (fun i hi => by
          rcases hb : mb may (rk h k i) with _ | _
          · rfl
          · exfalso
            have h7 := firstT_le may
            have h8 := mb_lt hb
            have h9 := firstT_spec may (rk h k i) (by omega)
            unfold mb at hb
            rw [h9] at hb; cases hb)
        rw [hin] at e9
        have HE := Lib.hid hE
        clear hE hmay hin hoi
        go_wp2
        refine bodyPost_ret (v := .tuple #[.int .i64 0, .int .i64 0, .slice none 0 0, .int .i64 3]) (by simp [results, Try.results31, go_sem]) rfl ⟨none, 0, 0, ?_, ?_, hbw⟩
        · unfold nextV nextH; rw [if_neg (by rw [HE.out]; decide), if_neg (by rw [HE.out]; decide), HE.out]
        · unfold nextU; rw [if_neg (by rw [HE.out]; decide)]; exact Ow.nil
end Go.Proofs.Ytidfngplhjegpaa
